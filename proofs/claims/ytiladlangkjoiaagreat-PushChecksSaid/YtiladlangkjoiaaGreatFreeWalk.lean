/- A region that draws its order: a body whose values are fixed, then effects that may need one another, in whatever order these allow, then a tail in a forced order. No condition. A region that draws its order, all of whose operations only make new blocks: values that are fixed, and values of which something holds; guards may be there. It may be walked in the text's order. No condition. A region that draws its order and only makes new blocks, walked in the text's order: the moves. No condition. -/
import Derived.Test.YtiladlangkjoiaaGreatChain
namespace Go.Proofs.YtiladlangkjoiaaGreat
open Go.RowKit

section
variable {P : Program} {ops : Array Oper} {Q : Exit → Act → World → Prop} {S : World → Prop}

def AD (P : Program) (ops : Array Oper) (S : World → Prop) (Q : Exit → Act → World → Prop) (T : List Oper) : Nat → List Nat → Act → (World → Prop) → Prop
  | 0, _, a, F => TG P S Q T a F
  | k + 1, L, a, F => ∀ j ∈ L, (∀ r ∈ L, deps ops j r = false) → Eff P S (opAt ops j) a F fun a' F' => AD P ops S Q T k (L.erase j) a' F'

def tailsD (ops : Array Oper) (Bd Al : List Nat) : List Nat → List Nat → Bool
  | _, [] => true
  | pre, j :: T => onlyOn ops j (fun r => Bd.contains r || Al.contains r || pre.contains r) && (Bd.all fun r => deps ops j r || (opAt ops r).apart ops (opAt ops j)) &&
      (match pre with | [] => Al.all (fun r => deps ops j r || Al.any fun q => decide (r < q) && deps ops q r) | q :: _ => deps ops j q) && tailsD ops Bd Al (j :: pre) T

def genD (ops : Array Oper) (Bd Al Tl : List Nat) : Bool :=
  Region.noSelect ops && (decide ((Bd ++ Al ++ Tl).length = ops.size) && (List.range ops.size).all fun i => (Bd ++ Al ++ Tl).contains i) && (decide (Bd ++ Al ++ Tl).Nodup && (Bd ++ Al ++ Tl).all fun i => decide (i < ops.size)) && decide (Bd.Pairwise (· < ·)) &&
  (Bd.all fun j => onlyOn ops j (fun r => Bd.contains r && decide (r < j)) && (Bd.all fun r => !decide (r < j) || deps ops j r || (opAt ops r).apart ops (opAt ops j))) &&
  decide (Al.Pairwise (· < ·)) && (Al.all fun j => onlyOn ops j (fun r => Bd.contains r || (Al.contains r && decide (r < j))) && (Bd.all fun r => deps ops j r || (opAt ops r).apart ops (opAt ops j))) && tailsD ops Bd Al [] Tl

theorem tailsD_spec {Bd Al : List Nat} : ∀ (Tl pre : List Nat), tailsD ops Bd Al pre Tl = true → ∀ (T1 : List Nat) (j : Nat) (T2 : List Nat), Tl = T1 ++ j :: T2 →
    onlyOn ops j (fun r => Bd.contains r || Al.contains r || (T1.reverse ++ pre).contains r) = true ∧ (∀ r ∈ Bd, deps ops j r = true ∨ (opAt ops r).apart ops (opAt ops j) = true) ∧
    (match T1.reverse ++ pre with | [] => ∀ r ∈ Al, deps ops j r = true ∨ ∃ q ∈ Al, r < q ∧ deps ops q r = true | q :: _ => deps ops j q = true)
  | [], _, _, T1, j, T2, e => by simp at e
  | i :: Tl, pre, h, [], j, T2, e => by
    simp only [List.nil_append, List.cons.injEq] at e
    obtain ⟨rfl, rfl⟩ := e
    simp only [tailsD, Bool.and_eq_true, List.all_eq_true, Bool.or_eq_true] at h
    refine ⟨h.1.1.1, h.1.1.2, ?_⟩
    have h2 := h.1.2
    cases pre with
    | nil => intro r hr; have := h2; have h3 := (List.all_eq_true.1 this) r hr; simpa using h3
    | cons q r => simpa using h2
  | i :: Tl, pre, h, k :: T1, j, T2, e => by
    simp only [List.cons_append, List.cons.injEq] at e
    obtain ⟨rfl, rfl⟩ := e
    simp only [tailsD, Bool.and_eq_true] at h
    have := tailsD_spec (T1 ++ j :: T2) (i :: pre) h.2 T1 j T2 rfl
    simpa [List.reverse_cons, List.append_assoc] using this

theorem wpAny_D {val : Nat → Value} {Bd Al Tl : List Nat} (hok : genD ops Bd Al Tl = true) : ∀ (fuel : Nat) (R L T1 T : List Nat) (F : World → Prop) (listed : Array Bool) (a : Act) (w : World),
    fuel = R.length + L.length + T.length → Tl = T1 ++ T → (L ≠ [] → T1 = []) → listed.size = ops.size → (∀ i, listed.getD i true = false ↔ (i ∈ R ∨ i ∈ L ∨ i ∈ T)) →
    (∀ i ∈ R, i ∈ Bd) → R.Pairwise (· < ·) → (∀ i ∈ L, i ∈ Al) → L.Pairwise (· < ·) → (∀ q ∈ Al, ∀ r ∈ L, deps ops q r = true → q ∈ L) → Stable F → (∀ w, F w → S w) → F w →
    BW P ops S val R a (fun a' => AD P ops S Q (T.map (opAt ops)) L.length L a' F) → wpAny P .any ops Q fuel listed a w := by
  simp only [genD, Bool.and_eq_true, decide_eq_true_eq] at hok
  obtain ⟨⟨⟨⟨⟨⟨⟨hns, hlen, hcov⟩, hnd, hbd⟩, hsort⟩, hB⟩, hsA⟩, hA⟩, hT⟩ := hok
  have hsel' : ∀ (i : Nat) (o : Oper) (cs : Array SelectCase) (b : Bool), ops[i]? = some o → o.op ≠ .select cs b := fun i o cs b hi => Region.noSelect_spec hns i o cs b hi
  have hsel : ∀ i cs b, (opAt ops i).op ≠ .select cs b := fun i cs b => by
    unfold opAt
    rw [Array.getD_eq_getD_getElem?]
    cases hi : ops[i]? with
    | none => simp [default, instInhabitedOper.default, instInhabitedOp.default]
    | some o => exact hsel' i o cs b hi
  have hat : ∀ j o, ops[j]? = some o → opAt ops j = o := fun j o h => by simp [opAt, Array.getD_eq_getD_getElem?, h]
  have hlt : ∀ i, (i ∈ Bd ∨ i ∈ Al ∨ i ∈ Tl) → i < ops.size := fun i hi => by
    have := (List.all_eq_true.1 hbd) i (by simpa [or_assoc] using hi)
    simpa using this
  have dBA : ∀ i, i ∈ Bd → i ∈ Al → False := fun i h1 h2 => by
    rw [List.append_assoc, List.nodup_append] at hnd
    exact hnd.2.2 i h1 i (by simp [h2]) rfl
  have dBT : ∀ i, i ∈ Bd → i ∈ Tl → False := fun i h1 h2 => by
    rw [List.append_assoc, List.nodup_append] at hnd
    exact hnd.2.2 i h1 i (by simp [h2]) rfl
  have dAT : ∀ i, i ∈ Al → i ∈ Tl → False := fun i h1 h2 => by
    rw [List.nodup_append] at hnd
    exact hnd.2.2 i (by simp [h1]) i h2 rfl
  have ndT : Tl.Nodup := by rw [List.nodup_append] at hnd; exact hnd.2.1
  have hB' : ∀ j ∈ Bd, (∀ e ∈ (opAt ops j).after, Region.binds .any e = true → e.on ∈ Bd ∧ e.on < j) ∧ ∀ r ∈ Bd, r < j → deps ops j r = true ∨ (opAt ops r).apart ops (opAt ops j) = true := fun j hj => by
    have := (List.all_eq_true.1 hB) j hj
    simp only [Bool.and_eq_true] at this
    refine ⟨fun e he hb => by simpa using onlyOn_spec this.1 e he hb, fun r hr hrj => ?_⟩
    have h2 := (List.all_eq_true.1 this.2) r hr
    simpa [hrj] using h2
  have hA' : ∀ j ∈ Al, (∀ e ∈ (opAt ops j).after, Region.binds .any e = true → e.on ∈ Bd ∨ (e.on ∈ Al ∧ e.on < j)) ∧ ∀ r ∈ Bd, deps ops j r = true ∨ (opAt ops r).apart ops (opAt ops j) = true := fun j hj => by
    have := (List.all_eq_true.1 hA) j hj
    simp only [Bool.and_eq_true] at this
    refine ⟨fun e he hb => by have h := onlyOn_spec this.1 e he hb; simpa using h, fun r hr => ?_⟩
    have h2 := (List.all_eq_true.1 this.2) r hr
    simpa using h2
  intro fuel
  induction fuel with
  | zero =>
    intro R L T1 T F listed a w hf hTl hLT hs hR hRB hp hLA hpL hup hFs hFe hF h
    obtain rfl : R = [] := List.eq_nil_of_length_eq_zero (by omega)
    obtain rfl : L = [] := List.eq_nil_of_length_eq_zero (by omega)
    obtain rfl : T = [] := List.eq_nil_of_length_eq_zero (by omega)
    refine ⟨?_, h w hF⟩
    rw [List.eq_nil_iff_forall_not_mem]
    intro j hj
    have := (hR j).1 (mem_ready.1 hj).1
    simp at this
  | succ fuel ih =>
    intro R L T1 T F listed a w hf hTl hLT hs hR hRB hp hLA hpL hup hFs hFe hF h
    have hTm : ∀ i ∈ T, i ∈ Tl := fun i hi => by rw [hTl]; simp [hi]
    have hndT : T.Nodup := by rw [hTl, List.nodup_append] at ndT; exact ndT.2.1
    have hdT : ∀ i ∈ T1, i ∈ T → False := fun i h1 h2 => by rw [hTl, List.nodup_append] at ndT; exact ndT.2.2 i h1 i h2 rfl
    have hun : ∀ i, (i ∈ R ∨ i ∈ L ∨ i ∈ T) → listed.getD i true = false := fun i hi => (hR i).2 hi
    have hall : ∀ i, (i ∈ R ∨ i ∈ L ∨ i ∈ T) → i < ops.size := fun i hi => hlt i (by
      rcases hi with h1 | h1 | h1
      · exact .inl (hRB i h1)
      · exact .inr (.inl (hLA i h1))
      · exact .inr (.inr (hTm i h1)))
    have hin : ∀ i, i < ops.size → ¬ (i ∈ R ∨ i ∈ L ∨ i ∈ T) → listed.getD i false = true := by
      intro i hi hne
      have h1 : listed.getD i true ≠ false := fun hx => hne ((hR i).1 hx)
      have hi' : i < listed.size := by omega
      simp [hi'] at h1 ⊢
      exact h1
    have hnotdep : ∀ j, j ∈ Region.ready .any ops listed → ∀ r, (r ∈ R ∨ r ∈ L ∨ r ∈ T) → deps ops j r = true → False := fun j hj r hr hd => by
      obtain ⟨hj0, o, ho, hdep⟩ := mem_ready.1 hj
      obtain ⟨e, he, hb, hon⟩ := deps_spec.1 hd
      rw [hat j o ho] at he
      have h1 := hdep e he hb
      have h2 := hun r hr
      rw [hon] at h1
      have : r < listed.size := by have := hall r hr; omega
      simp [this] at h1 h2
      rw [h2] at h1; cases h1
    refine ⟨fun h0 => ?_, fun j hj => ?_⟩
    · exfalso
      have rdy : ∀ i, (i ∈ R ∨ i ∈ L ∨ i ∈ T) → (∀ e ∈ (opAt ops i).after, Region.binds .any e = true → ¬ (e.on ∈ R ∨ e.on ∈ L ∨ e.on ∈ T) ∧ e.on < ops.size) → False := fun i hi hd => by
        have hil := hall i hi
        have : i ∈ Region.ready .any ops listed := mem_ready.2 ⟨hun i hi, opAt ops i, by simp [opAt, Array.getD_eq_getD_getElem?, Array.getElem?_eq_getElem hil], fun e he hb => hin _ (hd e he hb).2 (hd e he hb).1⟩
        rw [h0] at this
        cases this
      match R, L, T, hf with
      | i :: R', L, T, _ =>
        refine rdy i (by simp) fun e he hb => ?_
        obtain ⟨h1, h2⟩ := (hB' i (hRB i (by simp))).1 e he hb
        refine ⟨?_, hlt _ (.inl h1)⟩
        rintro (h3 | h3 | h3)
        · rcases List.mem_cons.1 h3 with h4 | h4
          · omega
          · have := (List.pairwise_cons.1 hp).1 _ h4; omega
        · exact dBA _ h1 (hLA _ h3)
        · exact dBT _ h1 (hTm _ h3)
      | [], i :: L', T, _ =>
        refine rdy i (by simp) fun e he hb => ?_
        rcases (hA' i (hLA i (by simp))).1 e he hb with h1 | ⟨h1, h2⟩
        · refine ⟨?_, hlt _ (.inl h1)⟩
          rintro (h3 | h3 | h3)
          · cases h3
          · exact dBA _ h1 (hLA _ h3)
          · exact dBT _ h1 (hTm _ h3)
        · refine ⟨?_, hlt _ (.inr (.inl h1))⟩
          rintro (h3 | h3 | h3)
          · cases h3
          · rcases List.mem_cons.1 h3 with h4 | h4
            · omega
            · have := (List.pairwise_cons.1 hpL).1 _ h4; omega
          · exact dAT _ h1 (hTm _ h3)
      | [], [], i :: T', _ =>
        obtain ⟨h1, _, _⟩ := tailsD_spec Tl [] hT T1 i T' hTl
        refine rdy i (by simp) fun e he hb => ?_
        have h2 := onlyOn_spec h1 e he hb
        simp only [List.append_nil, Bool.or_eq_true, List.contains_iff_mem, List.mem_reverse] at h2
        refine ⟨?_, hlt _ ?_⟩
        · rintro (h3 | h3 | h3)
          · cases h3
          · cases h3
          · rcases h2 with (h2 | h2) | h2
            · exact dBT _ h2 (hTm _ h3)
            · exact dAT _ h2 (hTm _ h3)
            · exact hdT _ h2 h3
        · rcases h2 with (h2 | h2) | h2
          · exact .inl h2
          · exact .inr (.inl h2)
          · exact .inr (.inr (by rw [hTl]; simp [h2]))
    · have hjm : j ∈ R ∨ j ∈ L ∨ j ∈ T := (hR j).1 (mem_ready.1 hj).1
      obtain ⟨hj0, o, ho, hdep⟩ := mem_ready.1 hj
      have hjl := hall j hjm
      have hoj := hat j o ho
      rcases hjm with hjR | hjL | hjT
      · obtain ⟨R1, R2, rfl⟩ := List.append_of_mem hjR
        have hap : ∀ r ∈ R1, (opAt ops r).apart ops (opAt ops j) = true := by
          intro r hr
          have hrj : r < j := (List.pairwise_append.1 hp).2.2 r hr j (by simp)
          rcases (hB' j (hRB j (by simp))).2 r (hRB r (by simp [hr])) hrj with hd | h1
          · exact (hnotdep j hj r (.inl (by simp [hr])) hd).elim
          · exact h1
        obtain ⟨hyj, hrest⟩ := BW.remove hsel R1 a hap h
        rw [hoj] at hyj hrest
        have fin : ∀ w', F w' → wpAny P .any ops Q fuel (listed.setIfInBounds j true) (a.put o.dst (val j)) w' := by
          intro w' hw'
          refine ih (R1 ++ R2) L T1 T F _ _ w' (by simp at hf ⊢; omega) hTl hLT (by simpa using hs) ?_ (fun i hi => hRB i (by simp at hi ⊢; rcases hi with h1 | h1 <;> simp [h1])) ?_ hLA hpL hup hFs hFe hw' hrest
          · intro i
            by_cases hij : j = i
            · subst hij
              have hn : j ∉ R1 ++ R2 := by
                have h1 := List.pairwise_append.1 hp
                have h2 := List.pairwise_cons.1 h1.2.1
                intro hm
                rcases List.mem_append.1 hm with h3 | h3
                · have := h1.2.2 j h3 j (by simp); omega
                · have := h2.1 j h3; omega
              have hjB := hRB j (by simp)
              have hjs : j < listed.size := by omega
              constructor
              · intro hx; simp [hjs] at hx
              · rintro (h1 | h1 | h1)
                · exact absurd h1 hn
                · exact (dBA j hjB (hLA j h1)).elim
                · exact (dBT j hjB (hTm j h1)).elim
            · rw [getD_set_ne true hij, hR i]
              simp [List.mem_append, List.mem_cons, Ne.symm hij]
          · have h1 := List.pairwise_append.1 hp
            have h2 := List.pairwise_cons.1 h1.2.1
            exact List.pairwise_append.2 ⟨h1.1, h2.2, fun x hx y hy => h1.2.2 x hx y (by simp [hy])⟩
        unfold wpOp
        simp only [ho]
        rcases hyj with ⟨hwd, hv⟩ | ⟨hwd, hu⟩
        · simp only [hwd, if_true]
          refine .inl ?_
          have hg := hv w (hFe _ hF)
          exact hg.upon fun w' hw' => fin w' (hFs _ _ hF hw')
        · simp only [hwd, Bool.false_eq_true, if_false]
          rw [hu] at fin
          exact fin w hF
      · -- an allocation
        have hap : ∀ r ∈ R, (opAt ops r).apart ops o = true := by
          intro r hr
          rcases (hA' j (hLA j hjL)).2 r (hRB r hr) with hd | h1
          · exact (hnotdep j hj r (.inl hr) hd).elim
          · rw [hoj] at h1; exact h1
        obtain ⟨a1, hK, he, hp'⟩ := BW.push' hsel (fun cs b => hsel' j o cs b ho) R a hap h
        obtain ⟨k, hk⟩ : ∃ k, L.length = k + 1 := ⟨L.length - 1, by have := List.length_pos_of_mem hjL; omega⟩
        rw [hk] at hK
        obtain ⟨hg, hrun⟩ := hK j hjL fun r hr => by
          cases hd : deps ops j r
          · rfl
          · exact (hnotdep j hj r (.inr (.inl hr)) hd).elim
        rw [hoj] at hg hrun
        have hwd : Region.wanted o (yielded ops a.tmps) = true := by simp [Region.wanted, hg]
        unfold wpOp
        simp only [ho, hwd, if_true]
        refine .inl ?_
        unfold Oper.wp
        rw [← he]
        refine (hrun w hF).upon fun v w1 ⟨F', hs', he', hF1, hK1⟩ => ?_
        have hnL : L.Nodup := hpL.imp fun h => by omega
        have hle : (L.erase j).length = k := by rw [List.length_erase_of_mem hjL]; omega
        refine ih R (L.erase j) T1 T F' _ _ w1 (by omega) hTl (fun hne => hLT (fun e => by rw [e] at hjL; cases hjL)) (by simpa using hs) ?_ hRB hp (fun i hi => hLA i (List.mem_of_mem_erase hi)) (hpL.sublist (List.erase_sublist)) (fun q hq r hr hd => ?_) hs' he' hF1 (hp' v _ (by rw [hle]; exact hK1))
        · intro i
          by_cases hij : j = i
          · subst hij
            have hjs : j < listed.size := by omega
            constructor
            · intro hx; simp [hjs] at hx
            · rintro (h1 | h1 | h1)
              · exact (dBA j (hRB j h1) (hLA j hjL)).elim
              · exact absurd h1 (List.Nodup.not_mem_erase hnL)
              · exact (dAT j (hLA j hjL) (hTm j h1)).elim
          · rw [getD_set_ne true hij, hR i, hnL.mem_erase_iff]
            simp [Ne.symm hij]
        · have h1 := hup q hq r (List.mem_of_mem_erase hr) hd
          refine (hnL.mem_erase_iff).2 ⟨fun e => ?_, h1⟩
          subst e
          exact hnotdep q hj r (.inr (.inl (List.mem_of_mem_erase hr))) hd
      · -- the first of the tail
        match T, hjT with
        | i :: T', hjT =>
          have hjm' : j = i := by
            rcases List.mem_cons.1 hjT with h1 | h1
            · exact h1
            · exfalso
              obtain ⟨X, Y, rfl⟩ := List.append_of_mem h1
              obtain ⟨_, _, h3⟩ := tailsD_spec Tl [] hT (T1 ++ i :: X) j Y (by rw [hTl]; simp)
              simp only [List.append_nil, List.reverse_append, List.reverse_cons, List.append_assoc] at h3
              rcases List.eq_nil_or_concat X with hX | ⟨X', q, hX⟩
              · subst hX
                exact hnotdep j hj i (.inr (.inr (by simp))) (by simpa using h3)
              · rw [hX] at h3
                exact hnotdep j hj q (.inr (.inr (by rw [hX]; simp))) (by simpa using h3)
          subst hjm'
          obtain ⟨_, h2, h3⟩ := tailsD_spec Tl [] hT T1 j T' hTl
          have hL0 : L = [] := by
            rcases List.eq_nil_or_concat L with hL | ⟨L', q, hL⟩
            · exact hL
            · obtain rfl : T1 = [] := hLT (by rw [hL]; simp)
              simp only [List.reverse_nil, List.append_nil] at h3
              have hqL : q ∈ L := by rw [hL]; simp
              rcases h3 q (hLA q hqL) with h4 | ⟨u, hu, hqu, hd⟩
              · exact (hnotdep j hj q (.inr (.inl hqL)) h4).elim
              · have h5 := hup u hu q hqL hd
                rw [hL, List.concat_eq_append] at h5 hpL
                rcases List.mem_append.1 h5 with h6 | h6
                · have := (List.pairwise_append.1 hpL).2.2 u h6 q (by simp); omega
                · simp at h6; omega
          subst hL0
          have hap : ∀ r ∈ R, (opAt ops r).apart ops o = true := by
            intro r hr
            rcases h2 r (hRB r hr) with hd | h1
            · exact (hnotdep j hj r (.inl hr) hd).elim
            · rw [hoj] at h1; exact h1
          obtain ⟨a1, hK, he, hp'⟩ := BW.push' hsel (fun cs b => hsel' j o cs b ho) R a hap h
          simp only [List.length_nil, List.map_cons, AD, TG] at hK
          obtain ⟨hg, hrun⟩ := hK
          rw [hoj] at hg hrun
          have hwd : Region.wanted o (yielded ops a.tmps) = true := by simp [Region.wanted, hg]
          unfold wpOp
          simp only [ho, hwd, if_true]
          refine .inl ?_
          unfold Oper.wp
          rw [← he]
          refine (hrun w hF).upon fun v w1 ⟨F', hs', he', hF1, hK1⟩ => ?_
          refine ih R [] (T1 ++ [j]) T' F' _ _ w1 (by simp at hf ⊢; omega) (by rw [hTl]; simp) (fun hne => absurd rfl hne) (by simpa using hs) ?_ hRB hp (fun i hi => by cases hi) (by simp) (fun q _ r hr => by cases hr) hs' he' hF1 (hp' v _ hK1)
          intro i
          by_cases hij : j = i
          · subst hij
            have hjs : j < listed.size := by omega
            constructor
            · intro hx; simp [hjs] at hx
            · rintro (h1 | h1 | h1)
              · exact (dBT j (hRB j h1) (hTm j (by simp))).elim
              · cases h1
              · exact absurd h1 (List.nodup_cons.1 hndT).1
          · rw [getD_set_ne true hij, hR i]
            simp [Ne.symm hij]

theorem wp_region_D {id : Nat} {l : List Oper} (Bd Al Tl : List Nat) (S F : World → Prop) {a : Act} {w : World} (hst : Stable F) (hFS : ∀ w, F w → S w) (hS : F w.drew) (hm : P.follows .mixedOrders = true) (hok : genD l.toArray Bd Al Tl = true)
    (h : BL P l.toArray S (pick l Bd) a (fun a' => AD P l.toArray S Q (pick l Tl) Al.length Al a' F)) : (Code.region id l.toArray true).wp P Q a w := by
  rw [pick_eq, pick_eq] at h
  have hok' := hok
  simp only [genD, Bool.and_eq_true, decide_eq_true_eq] at hok'
  obtain ⟨⟨⟨⟨⟨⟨⟨hns, hlen, hcov⟩, hnd, hbd⟩, hsort⟩, hB⟩, hsA⟩, hA⟩, hT⟩ := hok'
  have n1 : Bd.Nodup := by rw [List.append_assoc, List.nodup_append] at hnd; exact hnd.1
  obtain ⟨val, hv⟩ := BL.bwR Bd a n1 h
  refine wp_region_any hm ?_
  refine wpAny_D (S := S) hok _ Bd Al [] Tl F _ _ _ ?_ rfl (fun _ => rfl) (by simp) (fun i => ?_) (fun i hi => hi) hsort (fun i hi => hi) hsA (fun q hq _ _ _ => hq) hst hFS hS hv
  · simp only [List.length_append] at hlen; omega
  · have hperm : ∀ i, i < l.length → i ∈ Bd ∨ i ∈ Al ∨ i ∈ Tl := by
      intro i hi
      have := (List.all_eq_true.1 hcov) i (by simpa using hi)
      simpa [or_assoc] using this
    rcases Nat.lt_or_ge i l.length with hi | hi
    · simp [hi, hperm i hi]
    · have : ¬ (i ∈ Bd ∨ i ∈ Al ∨ i ∈ Tl) := fun h => by
        have := (List.all_eq_true.1 hbd) i (by simpa [or_assoc] using h)
        have h2 := of_decide_eq_true this
        rw [List.size_toArray] at h2; omega
      simp only [this, iff_false]
      rw [Array.getD_eq_getD_getElem?, Array.getElem?_eq_none (by rw [Array.size_replicate, List.size_toArray]; exact hi)]
      simp


def putL (ops : Array Oper) (val : Nat → Value) (l : List Nat) (a : Act) : Act := l.foldl (fun a j => a.put (opAt ops j).dst (val j)) a
theorem putL_congr {val val' : Nat → Value} : ∀ (l : List Nat) (a : Act), (∀ j ∈ l, val j = val' j) → putL ops val l a = putL ops val' l a
  | [], _, _ => rfl
  | j :: l, a, h => by
    unfold putL
    simp only [List.foldl_cons]
    rw [h j (by simp)]
    exact putL_congr l _ fun i hi => h i (by simp [hi])
theorem TG.mono : ∀ (T : List Oper) {a : Act} {F F' : World → Prop}, (∀ w, F' w → F w) → TG P S Q T a F → TG P S Q T a F'
  | [], _, _, _, h, k => fun w hw => k w (h w hw)
  | _ :: _, _, _, _, h, k => ⟨k.1, fun w hw => k.2 w (h w hw)⟩
theorem RunsTo.mono {G G' : Value → World → Prop} (h : ∀ v w, G v w → G' v w) {r : Result Next} (k : RunsTo P G r) : RunsTo P G' r := by
  cases r with
  | ok n w' =>
    cases n <;> simp only [RunsTo] at k ⊢
    case value u => exact h _ _ k
    case skip => exact h _ _ k
    case enter f args => exact Calls.mono k fun e w'' ⟨v, he, hw⟩ => ⟨v, he, h _ _ hw⟩
  | halt x w' => exact k.elim
structure SK where
  j : Nat
  uses : List Nat
  spoil : Option (List Nat × List Nat)
abbrev GT := (Nat → Value) → Value → World → Prop
def aftL (ops : Array Oper) (j : Nat) : List Nat → List Nat → List Nat
  | [], A => A
  | d :: r, A => aftL ops j r (if deps ops d j || A.any (fun k => deps ops d k) then d :: A else A)
def spoils (s : SK) (d : Nat) : Bool := match s.spoil with | none => false | some (l, _) => l.contains d
def skOk (ops : Array Oper) (sk : List SK) : Bool :=
  Region.noSelect ops && decide (sk.map (·.j)).Nodup && sk.all fun s =>
    ((opAt ops s.j).guard.isNone && decide s.uses.Nodup) &&
    (s.uses.all fun d => (sk.map (·.j)).contains d && deps ops s.j d && sk.all fun k => !spoils k d || k.j == s.j || deps ops k.j s.j) &&
    (sk.all fun i => (i.j == s.j || match (opAt ops i.j).dst with | some d => (opAt ops s.j).dst != some d | none => true) &&
      (s.uses.contains i.j || match (opAt ops i.j).dst with | some d => !((opAt ops s.j).looksAt ops).contains d | none => true)) &&
    match s.spoil with | none => true | some (l, k) => (sk.map (·.j)).all fun d => l.contains d || k.contains d || d == s.j || (aftL ops s.j (sk.map (·.j)) []).contains d
theorem aftL_spec {j : Nat} {D al : List Nat} (hj : j ∉ D) (hdc : ∀ i ∈ D, ∀ d ∈ al, deps ops i d = true → d ∈ D) (hjal : j ∈ al) : ∀ (l A : List Nat), (∀ d ∈ l, d ∈ al) → (∀ d ∈ A, d ∉ D ∧ d ∈ al) → ∀ d ∈ aftL ops j l A, d ∉ D
  | [], A, _, hA, d, hd => (hA d hd).1
  | x :: r, A, hl, hA, d, hd => by
    rw [aftL] at hd
    refine aftL_spec hj hdc hjal r _ (fun y hy => hl y (by simp [hy])) ?_ d hd
    intro y hy
    split at hy
    · rename_i hc
      rcases List.mem_cons.1 hy with rfl | hy
      · refine ⟨fun hyD => ?_, hl y (by simp)⟩
        simp only [Bool.or_eq_true, List.any_eq_true] at hc
        rcases hc with hc | ⟨k, hk, hkd⟩
        · exact hj (hdc y hyD j hjal hc)
        · exact (hA k hk).1 (hdc y hyD k (hA k hk).2 hkd)
      · exact hA y hy
    · exact hA y hy
theorem split_perm : ∀ (U D : List Nat), U.Nodup → D.Nodup → (∀ u ∈ U, u ∈ D) → ∃ R, (U ++ R).Perm D ∧ ∀ r ∈ R, r ∈ D ∧ r ∉ U
  | [], D, _, _, _ => ⟨D, List.Perm.refl _, fun r hr => ⟨hr, by simp⟩⟩
  | u :: U, D, hU, hD, h => by
    have hu := List.nodup_cons.1 hU
    obtain ⟨R, h1, h2⟩ := split_perm U (D.erase u) hu.2 (hD.erase u) fun x hx => (hD.mem_erase_iff).2 ⟨fun e => hu.1 (e ▸ hx), h x (by simp [hx])⟩
    refine ⟨R, (List.Perm.cons u h1).trans (List.perm_cons_erase (h u (by simp))).symm, fun r hr => ?_⟩
    obtain ⟨h3, h4⟩ := h2 r hr
    have h5 := (hD.mem_erase_iff).1 h3
    exact ⟨h5.2, by simp [h5.1, h4]⟩
theorem ad_rel (sk : List SK) {a1 : Act} {F : World → Prop} (G : Nat → GT) (hok : skOk ops sk = true) (hF : Stable F) (hFS : ∀ w, F w → S w) (hG : ∀ s ∈ sk, ∀ val v, Stable (G s.j val v))
    (hloc : ∀ s ∈ sk, ∀ val val' : Nat → Value, (∀ d ∈ s.uses, val d = val' d) → ∀ v w, G s.j val v w → G s.j val' v w) {T : List Oper}
    (hOb : ∀ s ∈ sk, ∀ (val : Nat → Value) w, F w → (∀ d ∈ s.uses, G d val (val d) w) → RunsTo P (fun v w1 => G s.j val v w1 ∧ (match s.spoil with | none => Ext w w1 | some (_, k) => F w1 ∧ ∀ d ∈ k, ∀ val u, G d val u w → G d val u w1)) ((execOp (putL ops val s.uses a1).eval (opAt ops s.j)).run P w))
    (hT : ∀ val, TG P S Q T (putL ops val (sk.map (·.j)) a1) (fun w => F w ∧ ∀ s ∈ sk, (sk.all fun k => !spoils k s.j) = true → G s.j val (val s.j) w)) : AD P ops S Q T (sk.map (·.j)).length (sk.map (·.j)) a1 F := by
  simp only [skOk, Bool.and_eq_true, decide_eq_true_eq, List.all_eq_true] at hok
  obtain ⟨⟨hns, hnd⟩, hok⟩ := hok
  generalize hal : sk.map (·.j) = al at *
  have hsk : ∀ j ∈ al, ∃ s ∈ sk, s.j = j := fun j hj => by rw [← hal] at hj; exact List.mem_map.1 hj
  have hks : ∀ s ∈ sk, s.j ∈ al := fun s hs => by rw [← hal]; exact List.mem_map.2 ⟨s, hs, rfl⟩
  have hsel : ∀ i cs b, (opAt ops i).op ≠ .select cs b := fun i cs b => by
    unfold opAt
    rw [Array.getD_eq_getD_getElem?]
    cases hi : ops[i]? with
    | none => simp [default, instInhabitedOper.default, instInhabitedOp.default]
    | some o => exact Region.noSelect_spec hns i o cs b hi
  have hne : ∀ i ∈ al, ∀ j ∈ al, i ≠ j → ∀ d, (opAt ops i).dst = some d → (opAt ops j).dst ≠ some d := fun i hi j hj hij d hd => by
    obtain ⟨si, hsi, rfl⟩ := hsk i hi
    obtain ⟨sj, hsj, rfl⟩ := hsk j hj
    have h := ((hok sj hsj).1.2 si hsi).1
    rw [hd] at h
    simp only [Bool.or_eq_true, beq_iff_eq, bne_iff_ne] at h
    rcases h with h | h
    · exact absurd h hij
    · exact h
  have hput : ∀ (val : Nat → Value) (s : SK), s ∈ sk → ∀ (L : List Nat) (a : Act), (∀ r ∈ L, r ∈ al ∧ r ∉ s.uses) → execOp (putL ops val L a).eval (opAt ops s.j) = execOp a.eval (opAt ops s.j) := by
    intro val s hs L
    induction L with
    | nil => intro a _; rfl
    | cons r L ih =>
      intro a h
      have : putL ops val (r :: L) a = putL ops val L (a.put (opAt ops r).dst (val r)) := rfl
      rw [this, ih _ fun x hx => h x (by simp [hx])]
      refine execOp_put (ops := ops) _ (hsel s.j) a _ _ fun d hd => ?_
      obtain ⟨h1, h2⟩ := h r (by simp)
      obtain ⟨si, hsi, rfl⟩ := hsk r h1
      have h3 := ((hok s hs).1.2 si hsi).2
      rw [hd] at h3
      simp only [Bool.or_eq_true, List.contains_iff_mem, Bool.not_eq_true', ← Bool.not_eq_true] at h3
      rcases h3 with h3 | h3
      · exact absurd h3 h2
      · simpa using h3
  have hperm : ∀ (val : Nat → Value) (L L' : List Nat) (a : Act), (∀ r ∈ L, r ∈ al) → L.Perm L' → putL ops val L a = putL ops val L' a := by
    intro val L L' a hL hp
    refine hp.foldl_eq' (fun x hx y hy z => ?_) a
    by_cases hxy : x = y
    · subst hxy; rfl
    · exact Act.put_comm z _ _ (hne x (hL x hx) y (hL y hy) hxy)
  have hgst : ∀ d ∈ al, ∀ val v, Stable (G d val v) := fun d hd => by obtain ⟨s, hs, rfl⟩ := hsk d hd; exact hG s hs
  have hst : ∀ (D : List Nat) (val : Nat → Value), (∀ d ∈ D, d ∈ al) → Stable fun w => F w ∧ ∀ d ∈ D, (∀ k ∈ sk, k.j ∈ D → spoils k d = false) → G d val (val d) w := fun D val hD w w' h e => ⟨hF _ _ h.1 e, fun d hd hk => hgst d (hD d hd) _ _ _ _ (h.2 d hd hk) e⟩
  have key : ∀ (k : Nat) (L D : List Nat) (a : Act) (val : Nat → Value), L.length = k → (D ++ L).Perm al → (∀ j ∈ D, ∀ d ∈ al, deps ops j d = true → d ∈ D) → a = putL ops val D a1 → AD P ops S Q T k L a (fun w => F w ∧ ∀ d ∈ D, (∀ k ∈ sk, k.j ∈ D → spoils k d = false) → G d val (val d) w) := by
    intro k
    induction k with
    | zero =>
      intro L D a val hl hp hdc ha
      obtain rfl : L = [] := List.eq_nil_of_length_eq_zero hl
      rw [List.append_nil] at hp
      rw [AD, ha, hperm val D al a1 (fun r hr => hp.mem_iff.1 hr) hp]
      refine TG.mono _ (fun w hw => ⟨hw.1, fun s hs hk => hw.2 s.j (hp.mem_iff.2 (hks s hs)) fun k hk' _ => ?_⟩) (hT val)
      have := (List.all_eq_true.1 hk) k hk'
      simpa using this
    | succ k ih =>
      intro L D a val hl hp hdc ha
      rw [AD]
      intro j hj hd
      have hDal : ∀ d ∈ D, d ∈ al := fun d hd => hp.mem_iff.1 (by simp [hd])
      have hjal : j ∈ al := hp.mem_iff.1 (by simp [hj])
      have hLal : ∀ r ∈ L, r ∈ al := fun r hr => hp.mem_iff.1 (by simp [hr])
      have hDL : (D ++ L).Nodup := hp.nodup_iff.2 hnd
      have hjD : j ∉ D := fun h => (List.nodup_append.1 hDL).2.2 j h j hj rfl
      have hjd : ∀ d ∈ al, deps ops j d = true → d ∈ D := fun d hd' hdep => by
        have : d ∈ D ++ L := hp.mem_iff.2 hd'
        rcases List.mem_append.1 this with h | h
        · exact h
        · rw [hd d h] at hdep; cases hdep
      obtain ⟨s, hs, rfl⟩ := hsk j hjal
      obtain ⟨⟨⟨hg, hus⟩, _⟩, hsp⟩ := hok s hs
      simp only [List.contains_iff_mem] at hus
      have huD : ∀ d ∈ s.uses, d ∈ D := fun d hd' => hjd d (hus d hd').1.1 (hus d hd').1.2
      refine ⟨by simpa using hg.1, fun w hw => ?_⟩
      have he : execOp (putL ops val s.uses a1).eval (opAt ops s.j) = execOp a.eval (opAt ops s.j) := by
        obtain ⟨R, h1, h2⟩ := split_perm s.uses D (by simpa using hg.2) (List.nodup_append.1 hDL).1 huD
        have h3 : putL ops val (s.uses ++ R) a1 = putL ops val R (putL ops val s.uses a1) := by unfold putL; rw [List.foldl_append]
        rw [ha, ← hperm val (s.uses ++ R) D a1 (fun r hr => hDal r (h1.mem_iff.1 hr)) h1, h3]
        exact (hput val s hs R _ fun r hr => ⟨hDal r (h2 r hr).1, (h2 r hr).2⟩).symm
      rw [← he]
      refine (hOb s hs val w hw.1 fun d hd' => ?_).mono fun v w1 ⟨hg1, hor⟩ => ?_
      · refine hw.2 d (huD d hd') fun k hk hkD => ?_
        have h3 := (hus d hd').2 k hk
        simp only [Bool.or_eq_true, Bool.not_eq_true', beq_iff_eq] at h3
        rcases h3 with (h3 | h3) | h3
        · exact h3
        · exact absurd (h3 ▸ hkD) hjD
        · exact absurd (hdc k.j hkD s.j hjal h3) hjD
      · have hval : ∀ d ∈ D, (if d = s.j then v else val d) = val d := fun d hd' => if_neg fun e : d = s.j => hjD (e ▸ hd')
        have hloc' : ∀ d ∈ D, ∀ u w, G d val u w → G d (fun i => if i = s.j then v else val i) u w := fun d hd' u w h => by
          obtain ⟨sd, hsd, rfl⟩ := hsk d (hDal d hd')
          refine hloc sd hsd _ _ (fun x hx => ?_) u w h
          have h4 := (hok sd hsd).1.1.2
          simp only [List.contains_iff_mem] at h4
          exact (hval x (hdc sd.j hd' x (h4 x hx).1.1 (h4 x hx).1.2)).symm
        refine ⟨_, hst (D ++ [s.j]) (fun i => if i = s.j then v else val i) (fun d hd' => by rcases List.mem_append.1 hd' with h | h; exact hDal d h; simp at h; exact h ▸ hjal), fun w h => hFS w h.1, ⟨?_, fun d hd' hk => ?_⟩, ih (L.erase s.j) (D ++ [s.j]) _ (fun i => if i = s.j then v else val i) (by rw [List.length_erase_of_mem hj]; omega) ?_ ?_ ?_⟩
        · cases hsj : s.spoil with
          | none => rw [hsj] at hor; exact hF _ _ hw.1 hor
          | some lk => obtain ⟨l, k⟩ := lk; rw [hsj] at hor; exact hor.1
        · rcases List.mem_append.1 hd' with h1 | h1
          · simp only [hval d h1]
            refine hloc' d h1 _ _ ?_
            have h2 := hw.2 d h1 fun k hk' hkD => hk k hk' (by simp [hkD])
            have h5 := hk s hs (by simp)
            cases hsj : s.spoil with
            | none => rw [hsj] at hor; exact hgst d (hDal d h1) _ _ _ _ h2 hor
            | some lk =>
              obtain ⟨l, k⟩ := lk
              rw [hsj] at hor hsp
              simp only [List.all_eq_true, Bool.or_eq_true, List.contains_iff_mem, beq_iff_eq] at hsp
              rcases hsp d (hDal d h1) with ((h6 | h6) | h6) | h6
              · simp [spoils, hsj, h6] at h5
              · exact hor.2 d h6 _ _ h2
              · exact absurd (h6 ▸ h1) hjD
              · exact absurd h1 (aftL_spec hjD hdc hjal al [] (fun _ h => h) (fun _ h => by cases h) d h6)
          · simp at h1
            subst h1
            simp only [if_true]
            refine hloc s hs _ _ (fun x hx => ?_) _ _ hg1
            exact (hval x (huD x hx)).symm
        · refine List.Perm.trans ?_ hp
          rw [List.append_assoc]
          exact List.Perm.append_left D (List.perm_cons_erase hj).symm
        · intro j' hj' d hd' hdep
          rcases List.mem_append.1 hj' with h1 | h1
          · simp [hdc j' h1 d hd' hdep]
          · simp at h1
            subst h1
            simp [hjd d hd' hdep]
        · have : putL ops (fun i => if i = s.j then v else val i) (D ++ [s.j]) a1 = (putL ops (fun i => if i = s.j then v else val i) D a1).put (opAt ops s.j).dst (if s.j = s.j then v else val s.j) := by unfold putL; rw [List.foldl_append]; rfl
          rw [this, if_pos rfl, ha]
          congr 1
          exact putL_congr D a1 fun i hi => (hval i hi).symm
  have h := key al.length al [] a1 (fun _ => undef) rfl (by simp) (by intro j hj; cases hj) rfl
  have e : (fun w => F w ∧ ∀ d ∈ ([] : List Nat), (∀ k ∈ sk, k.j ∈ ([] : List Nat) → spoils k d = false) → G d (fun _ => undef) undef w) = F := by funext w; simp
  rw [e] at h
  exact h

def getG : List (SK × GT) → Nat → GT
  | [], _ => fun _ _ _ => True
  | (s, g) :: r, d => if s.j = d then g else getG r d
def useF (es : List (SK × GT)) (val : Nat → Value) (w : World) : List Nat → Prop
  | [] => True
  | d :: r => getG es d val (val d) w ∧ useF es val w r
def useEq (val val' : Nat → Value) : List Nat → Prop
  | [] => True
  | d :: r => val d = val' d ∧ useEq val val' r
def keepF (es : List (SK × GT)) (w w1 : World) : List Nat → Prop
  | [] => True
  | d :: r => (∀ val u, getG es d val u w → getG es d val u w1) ∧ keepF es w w1 r
def spoilF (es : List (SK × GT)) (F : World → Prop) (w w1 : World) : Option (List Nat × List Nat) → Prop
  | none => Ext w w1
  | some (_, k) => F w1 ∧ keepF es w w1 k
def putP (l : List Oper) (val : Nat → Value) : List Nat → Act → Act
  | [], a => a
  | d :: r, a => putP l val r (a.put (pick1 l d).dst (val d))
def obF (P : Program) (l : List Oper) (F : World → Prop) (es : List (SK × GT)) (a1 : Act) : List (SK × GT) → Prop
  | [] => True
  | (s, g) :: r => ((∀ val v, Stable (g val v)) ∧ (∀ val val' v w, useEq val val' s.uses → g val v w → g val' v w) ∧
      ∀ val w, F w → useF es val w s.uses → RunsTo P (fun v w1 => g val v w1 ∧ spoilF es F w w1 s.spoil) ((execOp (putP l val s.uses a1).eval (pick1 l s.j)).run P w)) ∧ obF P l F es a1 r
def finF (es : List (SK × GT)) (val : Nat → Value) (w : World) : List (SK × GT) → Prop
  | [] => True
  | (s, g) :: r => ((es.all fun k => !spoils k.1 s.j) = true → g val (val s.j) w) ∧ finF es val w r
theorem getG_spec : ∀ {es : List (SK × GT)} {s : SK} {g : GT}, (es.map (·.1.j)).Nodup → (s, g) ∈ es → getG es s.j = g
  | [], _, _, _, h => by cases h
  | (s', g') :: r, s, g, hn, h => by
    rw [List.map_cons, List.nodup_cons] at hn
    rcases List.mem_cons.1 h with h | h
    · injection h with h1 h2
      subst h1 h2
      simp [getG]
    · have : s'.j ≠ s.j := fun e => hn.1 (e ▸ List.mem_map.2 ⟨(s, g), h, rfl⟩)
      rw [getG, if_neg this]
      exact getG_spec hn.2 h
theorem useF_of {es : List (SK × GT)} {val : Nat → Value} {w : World} : ∀ {l : List Nat}, (∀ d ∈ l, getG es d val (val d) w) → useF es val w l
  | [], _ => trivial
  | d :: r, h => ⟨h d (by simp), useF_of fun x hx => h x (by simp [hx])⟩
theorem useEq_of {val val' : Nat → Value} : ∀ {l : List Nat}, (∀ d ∈ l, val d = val' d) → useEq val val' l
  | [], _ => trivial
  | d :: r, h => ⟨h d (by simp), useEq_of fun x hx => h x (by simp [hx])⟩
theorem keepF_to {es : List (SK × GT)} {w w1 : World} : ∀ {l : List Nat}, keepF es w w1 l → ∀ d ∈ l, ∀ val u, getG es d val u w → getG es d val u w1
  | [], _, d, hd => by cases hd
  | x :: r, h, d, hd => by
    rcases List.mem_cons.1 hd with rfl | hd
    · exact h.1
    · exact keepF_to h.2 d hd
theorem putP_eq (l : List Oper) (val : Nat → Value) : ∀ (L : List Nat) (a : Act), putL l.toArray val L a = putP l val L a
  | [], _ => rfl
  | d :: r, a => by
    have : putL l.toArray val (d :: r) a = putL l.toArray val r (a.put (opAt l.toArray d).dst (val d)) := rfl
    rw [this, putP_eq l val r, putP, pick1_eq]
theorem obF_to {l : List Oper} {F : World → Prop} {es : List (SK × GT)} {a1 : Act} : ∀ {es' : List (SK × GT)}, obF P l F es a1 es' → ∀ s g, (s, g) ∈ es' → (∀ val v, Stable (g val v)) ∧ (∀ val val' v w, useEq val val' s.uses → g val v w → g val' v w) ∧
      ∀ val w, F w → useF es val w s.uses → RunsTo P (fun v w1 => g val v w1 ∧ spoilF es F w w1 s.spoil) ((execOp (putP l val s.uses a1).eval (pick1 l s.j)).run P w)
  | [], _, _, _, h => by cases h
  | (s', g') :: r, h, s, g, hm => by
    rcases List.mem_cons.1 hm with hm | hm
    · injection hm with h1 h2
      subst h1 h2
      exact h.1
    · exact obF_to h.2 s g hm
theorem finF_of {es : List (SK × GT)} {val : Nat → Value} {w : World} : ∀ {es' : List (SK × GT)}, (∀ s g, (s, g) ∈ es' → (es.all fun k => !spoils k.1 s.j) = true → g val (val s.j) w) → finF es val w es'
  | [], _ => trivial
  | (s, g) :: r, h => ⟨h s g (by simp), finF_of fun s' g' hm => h s' g' (by simp [hm])⟩
end
end Go.Proofs.YtiladlangkjoiaaGreat

namespace Go.Proofs.YtiladlangkjoiaaGreat
open Go.RowKit

section
variable {P : Program} {ops : Array Oper} {Q : Exit → Act → World → Prop} {S : World → Prop}

def seesB (ops : Array Oper) (j i : Nat) : Bool := match (opAt ops i).dst with | some d => ((opAt ops j).looksAt ops).contains d | none => false
def seenL (ops : Array Oper) (j : Nat) : List Nat := (List.range j).filter fun i => seesB ops j i
def freeOk (ops : Array Oper) : Bool :=
  Region.noSelect ops && (List.range ops.size).all fun j => onlyOn ops j (fun r => decide (r < j)) && (seenL ops j).all (fun i => deps ops j i) &&
    (List.range ops.size).all fun i => (i == j || match (opAt ops i).dst with | some d => (opAt ops j).dst != some d | none => true) && (decide (i < j) || !seesB ops j i)
abbrev GR := Nat → Value → World → Prop
def Does (P : Program) (ops : Array Oper) (o : Oper) (a : Act) (w : World) (G : Value → World → Prop) : Prop :=
  (Region.wanted o (yielded ops a.tmps) = true ∧ RunsTo P (fun v w1 => G v w1 ∧ Ext w w1) ((execOp a.eval o).run P w)) ∨ (Region.wanted o (yielded ops a.tmps) = false ∧ G undef w)
theorem Does.wpOp {i : Nat} {o : Oper} {a : Act} {w : World} {G : Value → World → Prop} (hi : ops[i]? = some o) (hd : Does P ops o a w G)
    {K : Act → World → Prop} (h : ∀ v w', G v w' → Ext w w' → K (a.put o.dst v) w') : wpOp P ops Q i K a w := by
  unfold Go.wpOp
  simp only [hi]
  rcases hd with ⟨hw, hv⟩ | ⟨hw, hg⟩
  · simp only [hw, if_true]; exact .inl (hv.upon fun v w' hv => h v w' hv.1 hv.2)
  · simp only [hw, Bool.false_eq_true, if_false]; exact h _ _ hg (Ext.refl _)
theorem Does.of_same {o : Oper} {a a' : Act} {w : World} {G : Value → World → Prop} (h : Does P ops o a w G) (he : execOp a'.eval o = execOp a.eval o)
    (hw : Region.wanted o (yielded ops a'.tmps) = Region.wanted o (yielded ops a.tmps)) : Does P ops o a' w G := by
  unfold Does at *
  rw [he, hw]
  exact h
theorem freeOk_spec (hok : freeOk ops = true) : (∀ i cs b, (opAt ops i).op ≠ .select cs b) ∧ ∀ j, j < ops.size → (∀ e ∈ (opAt ops j).after, Region.binds .any e = true → e.on < j) ∧ (∀ i ∈ seenL ops j, deps ops j i = true) ∧
    ∀ i, i < ops.size → (i ≠ j → ∀ d, (opAt ops i).dst = some d → (opAt ops j).dst ≠ some d) ∧ (j ≤ i → seesB ops j i = false) := by
  simp only [freeOk, Bool.and_eq_true, List.all_eq_true, List.mem_range] at hok
  obtain ⟨hns, hall⟩ := hok
  refine ⟨fun i cs b => ?_, fun j hj => ?_⟩
  · unfold opAt
    rw [Array.getD_eq_getD_getElem?]
    cases hi : ops[i]? with
    | none => simp [default, instInhabitedOper.default, instInhabitedOp.default]
    | some o => exact Region.noSelect_spec hns i o cs b hi
  · obtain ⟨⟨h1, h2⟩, h3⟩ := hall j hj
    refine ⟨fun e he hb => by simpa using onlyOn_spec h1 e he hb, h2, fun i hi => ?_⟩
    obtain ⟨h4, h5⟩ := h3 i hi
    refine ⟨fun hij d hd => ?_, fun hle => ?_⟩
    · rw [hd] at h4
      simp only [Bool.or_eq_true, beq_iff_eq, bne_iff_ne] at h4
      rcases h4 with h4 | h4
      · exact absurd h4 hij
      · exact h4
    · simp only [Bool.or_eq_true, decide_eq_true_eq, Bool.not_eq_true'] at h5
      rcases h5 with h5 | h5
      · omega
      · exact h5
theorem same_putL (hok : freeOk ops = true) {j : Nat} (val : Nat → Value) : ∀ (L : List Nat) (a : Act), (∀ i ∈ L, seesB ops j i = false) →
    execOp (putL ops val L a).eval (opAt ops j) = execOp a.eval (opAt ops j) ∧ Region.wanted (opAt ops j) (yielded ops (putL ops val L a).tmps) = Region.wanted (opAt ops j) (yielded ops a.tmps)
  | [], _, _ => ⟨rfl, rfl⟩
  | i :: L, a, h => by
    have e : putL ops val (i :: L) a = putL ops val L (a.put (opAt ops i).dst (val i)) := rfl
    obtain ⟨h1, h2⟩ := same_putL hok val L (a.put (opAt ops i).dst (val i)) fun x hx => h x (by simp [hx])
    have hs := h i (by simp)
    have hno : ∀ d, (opAt ops i).dst = some d → d ∉ (opAt ops j).looksAt ops := fun d hd => by
      unfold seesB at hs
      rw [hd] at hs
      simpa using hs
    rw [e, h1, h2]
    exact ⟨execOp_put (ops := ops) _ ((freeOk_spec hok).1 j) a _ _ hno, wanted_put _ a _ _ hno⟩
theorem putL_perm (hok : freeOk ops = true) (val : Nat → Value) {L L' : List Nat} (a : Act) (hL : ∀ r ∈ L, r < ops.size) (hp : L.Perm L') : putL ops val L a = putL ops val L' a := by
  refine hp.foldl_eq' (fun x hx y hy z => ?_) a
  by_cases hxy : x = y
  · subst hxy; rfl
  · exact Act.put_comm z _ _ ((((freeOk_spec hok).2 y (hL y hy)).2.2 x (hL x hx)).1 hxy)
theorem putL_app (val : Nat → Value) (L L' : List Nat) (a : Act) : putL ops val (L ++ L') a = putL ops val L' (putL ops val L a) := by unfold putL; rw [List.foldl_append]

end
end Go.Proofs.YtiladlangkjoiaaGreat

namespace Go.Proofs.YtiladlangkjoiaaGreat
open Go.RowKit

abbrev Env := List (Nat × Option Tmp × (Value → World → Prop))
def putV (val : Nat → Value) : Env → Act → Act
  | [], a => a
  | p :: r, a => putV val r (a.put p.2.1 (val p.1))
section
variable {P : Program} {ops : Array Oper} {Q : Exit → Act → World → Prop} {S : World → Prop}
def seesE (ops : Array Oper) (n : Nat) (env : Env) : Env := env.filter fun p => seesB ops n p.1
def Obl (P : Program) (ops : Array Oper) (S : World → Prop) (n : Nat) (env : Env) (a : Act) (g : Value → World → Prop) (o : Oper) : Prop :=
  ∀ val w, S w → (∀ p ∈ seesE ops n env, p.2.2 (val p.1) w) → Does P ops o (putV val (seesE ops n env) a) w g
def FB (P : Program) (ops : Array Oper) (S : World → Prop) (K : Env → Act → Prop) : List Oper → Nat → Env → Act → Prop
  | [], _, env, a => K env a
  | o :: r, n, env, a => (∃ v, Obl P ops S n env a (fun u _ => u = v) o ∧ FB P ops S K r (n + 1) env (a.put o.dst v)) ∨
      (∃ g : Value → World → Prop, (∀ v, Stable (g v)) ∧ Obl P ops S n env a g o ∧ FB P ops S K r (n + 1) ((n, o.dst, g) :: env) a)

theorem putV_eq (val : Nat → Value) : ∀ (env : Env) (a : Act), (∀ p ∈ env, p.2.1 = (opAt ops p.1).dst) → putV val env a = putL ops val (env.map (·.1)) a
  | [], _, _ => rfl
  | p :: r, a, h => by
    have e : putL ops val ((p :: r).map (·.1)) a = putL ops val (r.map (·.1)) (a.put (opAt ops p.1).dst (val p.1)) := rfl
    rw [e, ← h p (by simp), putV]
    exact putV_eq val r _ fun q hq => h q (by simp [hq])
variable {K : Env → Act → Prop} {o : Oper} {r : List Oper} {n : Nat} {env : Env} {a : Act}
theorem fb_nil (h : K env a) : FB P ops S K [] n env a := h
theorem fb_off (hU : seesE ops n env = []) (hw : Region.wanted o (yielded ops a.tmps) = false) (hr : FB P ops S K r (n + 1) env (a.put o.dst undef)) : FB P ops S K (o :: r) n env a :=
  .inl ⟨undef, fun val w _ _ => .inr ⟨by rw [hU]; exact hw, rfl⟩, hr⟩
theorem Gives.to {w : World} {v : Value} {r : Result Next} (h : Gives P w v r) : RunsTo P (fun u w1 => u = v ∧ Ext w w1) r := by
  cases r with
  | ok m w' =>
    cases m <;> simp only [Gives, RunsTo] at h ⊢
    case value u => exact h
    case skip => exact ⟨h.1.symm, h.2⟩
    case enter f args => exact h.mono fun e w'' ⟨he, hw⟩ => ⟨v, he, rfl, hw⟩
  | halt x w' => exact h.elim
theorem fb_op {v : Value} (hU : seesE ops n env = []) (hw : Region.wanted o (yielded ops a.tmps) = true) (h : ∀ w, S w → Gives P w v ((execOp a.eval o).run P w)) (hr : FB P ops S K r (n + 1) env (a.put o.dst v)) : FB P ops S K (o :: r) n env a :=
  .inl ⟨v, fun val w hS _ => .inl (by rw [hU]; exact ⟨hw, (h w hS).to⟩), hr⟩
theorem fb_eff (g : Value → World → Prop) (hst : ∀ v, Stable (g v)) (hU : seesE ops n env = []) (hw : Region.wanted o (yielded ops a.tmps) = true) (h : ∀ w, S w → RunsTo P (fun v w1 => g v w1 ∧ Ext w w1) ((execOp a.eval o).run P w))
    (hr : FB P ops S K r (n + 1) ((n, o.dst, g) :: env) a) : FB P ops S K (o :: r) n env a :=
  .inr ⟨g, hst, fun val w hS _ => .inl (by rw [hU]; exact ⟨hw, h w hS⟩), hr⟩
theorem fb_use {v : Value} {d : Nat} {t : Option Tmp} {g : Value → World → Prop} (hU : seesE ops n env = [(d, t, g)]) (hw : ∀ u, Region.wanted o (yielded ops (a.put t u).tmps) = true)
    (h : ∀ u w, S w → g u w → Gives P w v ((execOp (a.put t u).eval o).run P w)) (hr : FB P ops S K r (n + 1) env (a.put o.dst v)) : FB P ops S K (o :: r) n env a :=
  .inl ⟨v, fun val w hS hg => by
    have h1 := hg
    rw [hU] at h1
    have h2 := h1 (d, t, g) (by simp)
    refine .inl ?_
    rw [hU]
    exact ⟨hw (val d), (h (val d) w hS h2).to⟩, hr⟩
def SliceIs (m c : Nat) (t : TypeId) (cs : Array Value) (v : Value) (w : World) : Prop := ∃ b, v = .slice (some ⟨b, 0, none⟩) m c ∧ Blk w b t cs
theorem SliceIs.stable (m c : Nat) (t : TypeId) (cs : Array Value) (v : Value) : Stable (SliceIs m c t cs v) := fun _ _ ⟨b, h1, h2⟩ e => ⟨b, h1, h2.ext e⟩
theorem fb_slice {m c : Nat} {t : TypeId} {cs : Array Value} (hU : seesE ops n env = []) (hw : Region.wanted o (yielded ops a.tmps) = true)
    (h : ∀ w, S w → (execOp a.eval o).run P w = .ok (.value (.slice (some ⟨w.heap.size, 0, none⟩) m c)) (w.alloc (.cells cs t)))
    (hr : FB P ops S K r (n + 1) ((n, o.dst, SliceIs m c t cs) :: env) a) : FB P ops S K (o :: r) n env a :=
  fb_eff _ (SliceIs.stable m c t cs) hU hw (fun w hS => by rw [h w hS]; exact ⟨⟨_, rfl, Blk.newAt rfl⟩, Ext.alloc0 _ _⟩) hr
theorem fb_split {x : Bool} {j : Nat} {b : Bool} (_hg : o.guard = some (j, b)) (_hy : yielded ops a.tmps j = some x)
    (ht : x = true → FB P ops S K (o :: r) n env a) (hf : x = false → FB P ops S K (o :: r) n env a) : FB P ops S K (o :: r) n env a := by
  cases x
  · exact hf rfl
  · exact ht rfl
end
end Go.Proofs.YtiladlangkjoiaaGreat
