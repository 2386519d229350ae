/- A region that draws its order: operations with effects that come one after the other, between them operations whose values are fixed; one allocation at any time; a tail. No condition. -/
import Derived.Test.YtiladlangkjoiaaGreatGen
namespace Go.Proofs.YtiladlangkjoiaaGreat
open Go.RowKit

def Fr (n0 g : Nat) (w w1 : World) : Prop := w.heap.size ≤ w1.heap.size ∧ ∀ b, n0 ≤ b → b ≠ g → ∀ t cs, Blk w b t cs → Blk w1 b t cs

section
variable {P : Program} {ops : Array Oper} {Q : Exit → Act → World → Prop} {S : World → Prop}

def TL (P : Program) (S : World → Prop) (Q : Exit → Act → World → Prop) (lf : Bool) : List Oper → Act → (World → Prop) → Prop
  | [], a, F => ∀ w, F w → Q .normal a w
  | o :: T, a, F => o.guard = none ∧ ∀ w, F w → RunsTo P (fun v w1 => (lf = true ∧ T = [] ∧ Q .normal (a.put o.dst v) w1) ∨ ∃ F' : World → Prop, Stable F' ∧ (∀ w, F' w → S w) ∧ F' w1 ∧ TL P S Q lf T (a.put o.dst v) F') ((execOp a.eval o).run P w)

def EffC (P : Program) (S : World → Prop) (al : Bool) (n0 g : Nat) (o : Oper) (a : Act) (F : World → Prop) (K : Act → (World → Prop) → Prop) : Prop :=
  o.guard = none ∧ ∀ w, F w → RunsTo P (fun v w1 => (al = true → Fr n0 g w w1) ∧ ∃ F' : World → Prop, Stable F' ∧ (∀ w, F' w → S w) ∧ F' w1 ∧ K (a.put o.dst v) F') ((execOp a.eval o).run P w)

def XG (P : Program) (ops : Array Oper) (S : World → Prop) (al : Bool) (n0 g : Nat) (fin : List Nat) (K : Act → (World → Prop) → Prop) : List (List Nat × Nat) → Act → (World → Prop) → Prop
  | [], a, F => BL P ops S (fin.map (opAt ops)) a fun a' => K a' F
  | (Bd, e) :: st, a, F => BL P ops S (Bd.map (opAt ops)) a fun a' => EffC P S al n0 g (opAt ops e) a' F fun a'' F' => XG P ops S al n0 g fin K st a'' F'

def XE (P : Program) (ops : Array Oper) (S : World → Prop) (al : Bool) (n0 g : Nat) (fin : List Nat) (K : Act → (World → Prop) → Prop) : List (List Nat × Nat) → Act → (World → Prop) → Prop
  | [], a, F => K a F
  | (_, e) :: st, a, F => EffC P S al n0 g (opAt ops e) a F fun a'' F' => XG P ops S al n0 g fin K st a'' F'
def pures (fin : List Nat) : List (List Nat × Nat) → List Nat
  | [] => fin
  | (Bd, _) :: _ => Bd
theorem XG.split {al : Bool} {n0 g : Nat} {fin : List Nat} {K : Act → (World → Prop) → Prop} : ∀ {st : List (List Nat × Nat)} {a : Act} {F : World → Prop}, XG P ops S al n0 g fin K st a F → BL P ops S ((pures fin st).map (opAt ops)) a fun a' => XE P ops S al n0 g fin K st a' F
  | [], _, _, h => h
  | (_, _) :: _, _, _, h => h

theorem BW.append {val val' : Nat → Value} {K : Act → Prop} : ∀ (R1 R2 : List Nat) (a : Act), (∀ r ∈ R1, r ∉ R2) → BW P ops S val R1 a (fun a' => BW P ops S val' R2 a' K) → BW P ops S (fun i => if i ∈ R1 then val i else val' i) (R1 ++ R2) a K
  | [], R2, a, _, h => by
    have : (fun i => if i ∈ ([] : List Nat) then val i else val' i) = val' := by funext i; simp
    rw [this]; exact h
  | r :: R1, R2, a, hd, h => by
    obtain ⟨hr, h⟩ := h
    simp only [List.cons_append, BW, List.mem_cons, true_or, if_true]
    refine ⟨hr, ?_⟩
    have ih := BW.append R1 R2 _ (fun x hx => hd x (by simp [hx])) h
    have congr : ∀ (v v' : Nat → Value) (R : List Nat) (a : Act), (∀ r ∈ R, v r = v' r) → BW P ops S v R a K → BW P ops S v' R a K := by
      intro v v' R
      induction R with
      | nil => intro a _ h; exact h
      | cons x R ih2 =>
        intro a hv h
        simp only [BW, ← hv x (by simp)] at h ⊢
        exact ⟨h.1, ih2 _ (fun y hy => hv y (by simp [hy])) h.2⟩
    refine congr _ _ _ _ (fun x hx => ?_) ih
    by_cases h1 : x ∈ R1
    · simp [h1]
    · have h2 : x ∈ R2 := by rcases List.mem_append.1 hx with h | h; exact absurd h h1; exact h
      by_cases h3 : x = r
      · exact absurd (h3 ▸ h2) (hd r (by simp))
      · simp [h1, h3]

def nd (ops : Array Oper) (i : Nat) (U : List Nat) : Bool := U.all fun u => !deps ops i u
def apd (ops : Array Oper) (R : List Nat) (j : Nat) : Bool := R.all fun r => deps ops j r || (opAt ops r).apart ops (opAt ops j)
theorem nd_spec {i : Nat} {U : List Nat} (h : nd ops i U = true) : ∀ u ∈ U, deps ops i u = false := fun u hu => by
  have := (List.all_eq_true.1 h) u hu
  simpa using this
theorem apd_spec {R : List Nat} {j : Nat} (h : apd ops R j = true) : ∀ r ∈ R, deps ops j r = true ∨ (opAt ops r).apart ops (opAt ops j) = true := fun r hr => by
  have := (List.all_eq_true.1 h) r hr
  simpa using this
def restC (fin : List Nat) : List (List Nat × Nat) → List Nat
  | [] => []
  | (_, e) :: st => e :: (pures fin st ++ restC fin st)
def pureSeq (ops : Array Oper) (IP later : List Nat) : List Nat → Bool
  | [] => true
  | j :: N => apd ops IP j && (IP.all fun r => !deps ops r j) && nd ops j (j :: N ++ later) && pureSeq ops (IP ++ [j]) later N
def blkd (ops : Array Oper) (pre : List Nat) : List Nat → Bool
  | [] => true
  | j :: T => (pre.any fun u => deps ops j u) && blkd ops (j :: pre) T
def stOk (ops : Array Oper) (fin al Tl : List Nat) (IP : List Nat) : List (List Nat × Nat) → Bool
  | [] => true
  | (_, e) :: st => apd ops IP e && nd ops e (e :: (pures fin st ++ restC fin st) ++ (al ++ Tl)) && pureSeq ops IP (restC fin st ++ (al ++ Tl)) (pures fin st) && blkd ops [e] (pures fin st ++ restC fin st ++ Tl) && stOk ops fin al Tl (IP ++ pures fin st) st
def tlOk (ops : Array Oper) (IP : List Nat) : List Nat → Bool
  | [] => true
  | t :: T => apd ops IP t && nd ops t (t :: T) && blkd ops [t] T && tlOk ops IP T
def chainOk (ops : Array Oper) (lf : Bool) (st : List (List Nat × Nat)) (fin al Tl : List Nat) : Bool :=
  Region.noSelect ops && ((List.range ops.size).all fun i => onlyOn ops i fun r => decide (r < ops.size)) &&
  (decide (pures fin st ++ (restC fin st ++ (al ++ Tl))).Nodup && ((pures fin st ++ (restC fin st ++ (al ++ Tl))).all fun i => decide (i < ops.size)) && (List.range ops.size).all fun i => (pures fin st ++ (restC fin st ++ (al ++ Tl))).contains i) &&
  pureSeq ops [] (restC fin st ++ (al ++ Tl)) (pures fin st) && stOk ops fin al Tl (pures fin st) st && tlOk ops (pures fin st ++ restC fin st) Tl && (al.isEmpty || blkd ops al Tl) && al.all (fun j => nd ops j (pures fin st ++ (restC fin st ++ (al ++ Tl)))) &&
  al.all (fun j => (pures fin st ++ restC fin st).all fun r => (opAt ops r).apart ops (opAt ops j)) && decide (al.length ≤ 1) &&
  (!lf || match Tl.getLast? with | none => true | some t => (pures fin st ++ restC fin st).all fun r => deps ops t r)

def Rel (ops : Array Oper) (r j : Nat) : Prop := (deps ops j r = true ∨ (opAt ops r).apart ops (opAt ops j) = true) ∧ deps ops r j = false

theorem pureSeq_spec : ∀ (N IP later : List Nat), pureSeq ops IP later N = true → IP.Pairwise (Rel ops) → (IP ++ N).Pairwise (Rel ops) ∧ ∀ j ∈ N, deps ops j j = false ∧ ∀ u ∈ later, deps ops j u = false
  | [], IP, later, _, hp => ⟨by simpa using hp, fun j hj => by cases hj⟩
  | j :: N, IP, later, h, hp => by
    simp only [pureSeq, Bool.and_eq_true] at h
    obtain ⟨⟨⟨h1, h2⟩, h3⟩, h4⟩ := h
    have hd := nd_spec h3
    have hp' : (IP ++ [j]).Pairwise (Rel ops) := by
      rw [List.pairwise_append]
      refine ⟨hp, by simp, fun r hr x hx => ?_⟩
      simp only [List.mem_cons, List.not_mem_nil, or_false] at hx
      subst hx
      have := (List.all_eq_true.1 h2) r hr
      exact ⟨apd_spec h1 r hr, by simpa using this⟩
    obtain ⟨q1, q2⟩ := pureSeq_spec N (IP ++ [j]) later h4 hp'
    refine ⟨by simpa using q1, fun x hx => ?_⟩
    rcases List.mem_cons.1 hx with rfl | hx
    · exact ⟨hd x (by simp), fun u hu => hd u (by simp [hu])⟩
    · exact q2 x hx
theorem blkd_spec : ∀ (T pre : List Nat), blkd ops pre T = true → ∀ j ∈ T, ∃ u, (u ∈ pre ∨ u ∈ T) ∧ deps ops j u = true
  | [], _, _, j, hj => by cases hj
  | i :: T, pre, h, j, hj => by
    simp only [blkd, Bool.and_eq_true, List.any_eq_true] at h
    rcases List.mem_cons.1 hj with rfl | hj
    · obtain ⟨u, hu, hd⟩ := h.1
      exact ⟨u, .inl hu, hd⟩
    · obtain ⟨u, hu, hd⟩ := blkd_spec T (i :: pre) h.2 j hj
      refine ⟨u, ?_, hd⟩
      rcases hu with hu | hu
      · rcases List.mem_cons.1 hu with rfl | hu
        · exact .inr (by simp)
        · exact .inl hu
      · exact .inr (by simp [hu])

structure Listed (ops : Array Oper) (listed : Array Bool) (U : List Nat) : Prop where
  size : listed.size = ops.size
  iff : ∀ i, listed.getD i true = false ↔ i ∈ U
  lt : ∀ i ∈ U, i < ops.size
  nodup : U.Nodup
theorem Listed.set {listed : Array Bool} {U : List Nat} {j : Nat} {U' : List Nat} (h : Listed ops listed U) (hj : j ∈ U) (hU : ∀ i, i ∈ U' ↔ i ∈ U ∧ i ≠ j) (hn : U'.Nodup) : Listed ops (listed.setIfInBounds j true) U' := by
  refine ⟨by simpa using h.size, fun i => ?_, fun i hi => h.lt i ((hU i).1 hi).1, hn⟩
  by_cases hij : j = i
  · subst hij
    have hjs : j < listed.size := by have := h.lt j hj; have := h.size; omega
    constructor
    · intro hx; simp [hjs] at hx
    · intro hx; exact absurd rfl ((hU j).1 hx).2
  · rw [getD_set_ne true hij, h.iff i, hU i]
    exact ⟨fun hx => ⟨hx, fun e => hij e.symm⟩, fun hx => hx.1⟩
theorem Listed.notdep {listed : Array Bool} {U : List Nat} (h : Listed ops listed U) {j r : Nat} (hj : j ∈ Region.ready .any ops listed) (hr : r ∈ U) (hd : deps ops j r = true) : False := by
  obtain ⟨hj0, o, ho, hdep⟩ := mem_ready.1 hj
  obtain ⟨e, he, hb, hon⟩ := deps_spec.1 hd
  have hoj : opAt ops j = o := by simp [opAt, Array.getD_eq_getD_getElem?, ho]
  rw [hoj] at he
  have h1 := hdep e he hb
  have h2 := (h.iff r).2 hr
  rw [hon] at h1
  have : r < listed.size := by have := h.lt r hr; have := h.size; omega
  simp [this] at h1 h2
  rw [h2] at h1; cases h1
theorem Listed.ready {listed : Array Bool} {U : List Nat} (h : Listed ops listed U) (hon : ∀ i, i < ops.size → onlyOn ops i (fun r => decide (r < ops.size)) = true) {i : Nat} (hi : i ∈ U) (hd : ∀ u ∈ U, deps ops i u = false) : i ∈ Region.ready .any ops listed := by
  have hil := h.lt i hi
  refine mem_ready.2 ⟨(h.iff i).2 hi, opAt ops i, by simp [opAt, Array.getD_eq_getD_getElem?, Array.getElem?_eq_getElem hil], fun e he hb => ?_⟩
  have hlt := onlyOn_spec (hon i hil) e he hb
  simp only [decide_eq_true_eq] at hlt
  have hne : ¬ e.on ∈ U := fun hx => by
    have := hd e.on hx
    rw [deps_spec.2 ⟨e, he, hb, rfl⟩] at this
    cases this
  have h1 : listed.getD e.on true ≠ false := fun hx => hne ((h.iff _).1 hx)
  have hi' : e.on < listed.size := by have := h.size; omega
  simp [hi'] at h1 ⊢
  exact h1
theorem opAt_of {j : Nat} {o : Oper} (h : ops[j]? = some o) : opAt ops j = o := by simp [opAt, Array.getD_eq_getD_getElem?, h]
theorem Listed.rem {listed : Array Bool} {A B : List Nat} {j : Nat} (h : Listed ops listed (A ++ j :: B)) : Listed ops (listed.setIfInBounds j true) (A ++ B) := by
  have hn := h.nodup
  rw [List.nodup_append, List.nodup_cons] at hn
  obtain ⟨h1, ⟨h2, h3⟩, h4⟩ := hn
  refine h.set (by simp) (fun i => ?_) (List.nodup_append.2 ⟨h1, h3, fun x hx y hy => h4 x hx y (by simp [hy])⟩)
  simp only [List.mem_append, List.mem_cons]
  constructor
  · rintro (hi | hi)
    · exact ⟨.inl hi, h4 i hi j (by simp)⟩
    · exact ⟨.inr (.inr hi), fun e => h2 (e ▸ hi)⟩
  · rintro ⟨hi | hi | hi, hne⟩
    · exact .inl hi
    · exact absurd hi hne
    · exact .inr hi

theorem wpAny_B (hns : Region.noSelect ops = true) (hon : ∀ i, i < ops.size → onlyOn ops i (fun r => decide (r < ops.size)) = true) {lf : Bool} {val : Nat → Value} {IP : List Nat} : ∀ (fuel : Nat) (R T : List Nat) (F : World → Prop) (listed : Array Bool) (a : Act) (w : World),
    fuel = R.length + T.length → Listed ops listed (R ++ T) → R.Pairwise (Rel ops) → (∀ r ∈ R, deps ops r r = false ∧ ∀ u ∈ T, deps ops r u = false) → (∀ r ∈ R, r ∈ IP) → tlOk ops IP T = true → (lf = true → ∀ t, T.getLast? = some t → ∀ r ∈ IP, deps ops t r = true) →
    Stable F → (∀ w, F w → S w) → F w → BW P ops S val R a (fun a' => TL P S Q lf (T.map (opAt ops)) a' F) → wpAny P .any ops Q fuel listed a w := by
  have hsel' : ∀ (i : Nat) (o : Oper) (cs : Array SelectCase) (b : Bool), ops[i]? = some o → o.op ≠ .select cs b := fun i o cs b hi => Region.noSelect_spec hns i o cs b hi
  have hsel : ∀ i cs b, (opAt ops i).op ≠ .select cs b := fun i cs b => by
    unfold opAt
    rw [Array.getD_eq_getD_getElem?]
    cases hi : ops[i]? with
    | none => simp [default, instInhabitedOper.default, instInhabitedOp.default]
    | some o => exact hsel' i o cs b hi
  intro fuel
  induction fuel with
  | zero =>
    intro R T F listed a w hf hL hp hR hIP ht hlf hFs hFS hF h
    obtain rfl : R = [] := List.eq_nil_of_length_eq_zero (by omega)
    obtain rfl : T = [] := List.eq_nil_of_length_eq_zero (by omega)
    refine ⟨?_, h w hF⟩
    rw [List.eq_nil_iff_forall_not_mem]
    intro j hj
    have := (hL.iff j).1 (mem_ready.1 hj).1
    simp at this
  | succ fuel ih =>
    intro R T F listed a w hf hL hp hR hIP ht hlf hFs hFS hF h
    refine ⟨fun h0 => ?_, fun j hj => ?_⟩
    · exfalso
      have rdy : ∀ i, i ∈ R ++ T → (∀ u ∈ R ++ T, deps ops i u = false) → False := fun i hi hd => by
        have := hL.ready hon hi hd
        rw [h0] at this; cases this
      match R, T, hf with
      | r :: R', T, _ =>
        refine rdy r (by simp) fun u hu => ?_
        obtain ⟨h1, h2⟩ := hR r (by simp)
        rcases List.mem_append.1 hu with hu | hu
        · rcases List.mem_cons.1 hu with rfl | hu
          · exact h1
          · exact ((List.pairwise_cons.1 hp).1 u hu).2
        · exact h2 u hu
      | [], t :: T', _ =>
        simp only [tlOk, Bool.and_eq_true] at ht
        exact rdy t (by simp) (nd_spec ht.1.1.2)
    · have hjU := (hL.iff j).1 (mem_ready.1 hj).1
      obtain ⟨hj0, o, ho, hdep⟩ := mem_ready.1 hj
      have hoj := opAt_of ho
      rcases List.mem_append.1 hjU with hjR | hjT
      · obtain ⟨R1, R2, rfl⟩ := List.append_of_mem hjR
        have hap : ∀ r ∈ R1, (opAt ops r).apart ops (opAt ops j) = true := by
          intro r hr
          rcases ((List.pairwise_append.1 hp).2.2 r hr j (by simp)).1 with hd | h1
          · exact (hL.notdep hj (by simp [hr]) hd).elim
          · exact h1
        obtain ⟨hyj, hrest⟩ := BW.remove hsel R1 a hap h
        rw [hoj] at hyj hrest
        have hL' : Listed ops (listed.setIfInBounds j true) ((R1 ++ R2) ++ T) := by
          rw [List.append_assoc, List.cons_append] at hL
          rw [List.append_assoc]
          exact hL.rem
        have fin : ∀ w', F w' → wpAny P .any ops Q fuel (listed.setIfInBounds j true) (a.put o.dst (val j)) w' := by
          intro w' hw'
          refine ih (R1 ++ R2) T F _ _ w' (by simp at hf ⊢; omega) hL' ?_ (fun r hr => hR r (by simp at hr ⊢; rcases hr with h1 | h1 <;> simp [h1])) (fun r hr => hIP r (by simp at hr ⊢; rcases hr with h1 | h1 <;> simp [h1])) ht hlf hFs hFS hw' hrest
          have h1 := List.pairwise_append.1 hp
          have h2 := List.pairwise_cons.1 h1.2.1
          exact List.pairwise_append.2 ⟨h1.1, h2.2, fun x hx y hy => h1.2.2 x hx y (by simp [hy])⟩
        unfold wpOp
        simp only [ho]
        rcases hyj with ⟨hwd, hv⟩ | ⟨hwd, hu⟩
        · simp only [hwd, if_true]
          refine .inl ?_
          have hg := hv w (hFS _ hF)
          exact hg.upon fun w' hw' => fin w' (hFs _ _ hF hw')
        · simp only [hwd, Bool.false_eq_true, if_false]
          rw [hu] at fin
          exact fin w hF
      · match T, hjT with
        | i :: T', hjT =>
          simp only [tlOk, Bool.and_eq_true] at ht
          obtain ⟨⟨⟨t1, t2⟩, t3⟩, t4⟩ := ht
          have hji : j = i := by
            rcases List.mem_cons.1 hjT with h1 | h1
            · exact h1
            · exfalso
              obtain ⟨u, hu, hd⟩ := blkd_spec T' [i] t3 j h1
              exact hL.notdep hj (by simp only [List.mem_append, List.mem_cons, List.not_mem_nil, or_false] at hu ⊢; exact .inr hu) hd
          subst hji
          have hap : ∀ r ∈ R, (opAt ops r).apart ops o = true := by
            intro r hr
            rcases apd_spec t1 r (hIP r hr) with hd | h1
            · exact (hL.notdep hj (by simp [hr]) hd).elim
            · rw [hoj] at h1; exact h1
          obtain ⟨a1, hK, he, hp'⟩ := BW.push' hsel (fun cs b => hsel' j o cs b ho) R a hap h
          simp only [List.map_cons, TL] at hK
          obtain ⟨hg, hrun⟩ := hK
          rw [hoj] at hg hrun
          have hwd : Region.wanted o (yielded ops a.tmps) = true := by simp [Region.wanted, hg]
          unfold wpOp
          simp only [ho, hwd, if_true]
          refine .inl ?_
          unfold Oper.wp
          rw [← he]
          refine (hrun w hF).upon fun v w1 hor => ?_
          rcases hor with ⟨hl1, hT0, hQ⟩ | ⟨F', hs', he', hF1, hK1⟩
          · have hT0 : T' = [] := by simpa using hT0
            subst hT0
            obtain rfl : R = [] := by
              rw [List.eq_nil_iff_forall_not_mem]
              intro r hr
              exact hL.notdep hj (by simp [hr]) (hlf hl1 j rfl r (hIP r hr))
            obtain rfl : fuel = 0 := by simp at hf; omega
            refine ⟨?_, by have := hp' v (fun a' => Q .normal a' w1) hQ; exact this⟩
            have hL0 := hL.rem
            rw [List.eq_nil_iff_forall_not_mem]
            intro i hi
            have := (hL0.iff i).1 (mem_ready.1 hi).1
            simp at this
          · exact ih R T' F' _ _ w1 (by simp at hf ⊢; omega) hL.rem hp (fun r hr => ⟨(hR r hr).1, fun u hu => (hR r hr).2 u (by simp [hu])⟩) hIP t4 (fun hl1 t ht => hlf hl1 t (by cases T' with | nil => cases ht | cons x y => simpa using ht)) hs' he' hF1 (hp' v _ hK1)

def putD (dA : Option Nat) : Option Nat → Act → Act
  | none, a => a
  | some b, a => a.put dA (.pointer (some ⟨b, 0, none⟩))
def FD (te : TypeId) (zs : Array Value) : Option Nat → (World → Prop) → World → Prop
  | none, F => F
  | some b, F => fun w => F w ∧ Blk w b te zs
theorem FD.stable {te : TypeId} {zs : Array Value} {D : Option Nat} {F : World → Prop} (h : Stable F) : Stable (FD te zs D F) := by
  cases D with
  | none => exact h
  | some b => exact h.and (Stable.blk b te zs)
theorem FD.one {te : TypeId} {zs : Array Value} {D : Option Nat} {F : World → Prop} {w : World} (h : FD te zs D F w) : F w := by
  cases D with
  | none => exact h
  | some b => exact h.1

theorem BW.putD {val : Nat → Value} {K : Act → Prop} {dA : Option Nat} {D : Option Nat} : ∀ (R : List Nat) (a : Act),
    (∀ r ∈ R, ∀ a : Act, execOp (putD dA D a).eval (opAt ops r) = execOp a.eval (opAt ops r) ∧ Region.wanted (opAt ops r) (yielded ops (putD dA D a).tmps) = Region.wanted (opAt ops r) (yielded ops a.tmps) ∧ ∀ v, (putD dA D a).put (opAt ops r).dst v = putD dA D (a.put (opAt ops r).dst v)) →
    BW P ops S val R a K → BW P ops S val R (Proofs.YtiladlangkjoiaaGreat.putD dA D a) (fun a' => ∃ a0, a' = Proofs.YtiladlangkjoiaaGreat.putD dA D a0 ∧ K a0)
  | [], a, _, h => ⟨a, rfl, h⟩
  | r :: R, a, hd, h => by
    obtain ⟨h1, h2, h3⟩ := hd r (by simp) a
    refine ⟨h.1.of_same h1 h2, ?_⟩
    rw [h3]
    exact BW.putD R _ (fun x hx => hd x (by simp [hx])) h.2

theorem wpAny_A (hns : Region.noSelect ops = true) (hon : ∀ i, i < ops.size → onlyOn ops i (fun r => decide (r < ops.size)) = true) {lf : Bool} {fin al Tl X : List Nat} {n0 g : Nat} {dA : Option Nat} {te : TypeId} {zs : Array Value} {K : Act → (World → Prop) → Prop}
    (hal : al = [] ∨ ∃ j, al = [j] ∧ (opAt ops j).dst = dA ∧ (opAt ops j).guard = none ∧ (∀ (a : Act) w, (execOp a.eval (opAt ops j)).run P w = .ok (.value (.pointer (some ⟨w.heap.size, 0, none⟩))) (w.alloc (.cells zs te))) ∧ (∀ w, S w → n0 ≤ w.heap.size ∧ g < w.heap.size) ∧
      (∀ r ∈ X, (opAt ops r).apart ops (opAt ops j) = true) ∧ ∀ r ∈ X ++ (j :: Tl), deps ops j r = false)
    (hK : ∀ a F D, (al = [] ∧ D = none ∨ (∃ j b, al = [j] ∧ D = some b ∧ n0 ≤ b ∧ b ≠ g)) → K a F → TL P S Q lf (Tl.map (opAt ops)) (putD dA D a) (FD te zs D F))
    (htl : tlOk ops X Tl = true) (hlf : lf = true → ∀ t, Tl.getLast? = some t → ∀ r ∈ X, deps ops t r = true) (hbl : al = [] ∨ blkd ops al Tl = true) : ∀ (fuel : Nat) (val : Nat → Value) (R IP : List Nat) (st : List (List Nat × Nat)) (al' : List Nat) (D : Option Nat) (F : World → Prop) (listed : Array Bool) (a : Act) (w : World),
    fuel = (R ++ (restC fin st ++ (al' ++ Tl))).length → Listed ops listed (R ++ (restC fin st ++ (al' ++ Tl))) → IP.Pairwise (Rel ops) → R.Sublist IP → (∀ r ∈ R, deps ops r r = false ∧ ∀ u ∈ restC fin st ++ (al ++ Tl), deps ops r u = false) →
    (∀ r ∈ R, r ∈ X) → (∀ r ∈ restC fin st, r ∈ X) → stOk ops fin al Tl IP st = true → (al' = al ∧ D = none ∨ (∃ j b, al = [j] ∧ al' = [] ∧ D = some b ∧ n0 ≤ b ∧ b ≠ g)) →
    Stable F → (∀ w, F w → S w) → FD te zs D F w → BW P ops S val R a (fun a' => XE P ops S (!al.isEmpty) n0 g fin K st a' F) → wpAny P .any ops Q fuel listed (putD dA D a) w := by
  have hsel' : ∀ (i : Nat) (o : Oper) (cs : Array SelectCase) (b : Bool), ops[i]? = some o → o.op ≠ .select cs b := fun i o cs b hi => Region.noSelect_spec hns i o cs b hi
  have hsel : ∀ i cs b, (opAt ops i).op ≠ .select cs b := fun i cs b => by
    unfold opAt
    rw [Array.getD_eq_getD_getElem?]
    cases hi : ops[i]? with
    | none => simp [default, instInhabitedOper.default, instInhabitedOp.default]
    | some o => exact hsel' i o cs b hi
  -- the allocation's put is apart from all of X
  have hDX : ∀ D, (D = none ∨ ∃ j b, al = [j] ∧ D = some b) → ∀ r ∈ X, ∀ a : Act, execOp (putD dA D a).eval (opAt ops r) = execOp a.eval (opAt ops r) ∧ Region.wanted (opAt ops r) (yielded ops (putD dA D a).tmps) = Region.wanted (opAt ops r) (yielded ops a.tmps) ∧ ∀ v, (putD dA D a).put (opAt ops r).dst v = putD dA D (a.put (opAt ops r).dst v) := by
    intro D hD r hr a
    rcases hD with rfl | ⟨j, b, hj, rfl⟩
    · exact ⟨rfl, rfl, fun _ => rfl⟩
    · rcases hal with h | ⟨j', h, hdst, _, _, _, hap, _⟩
      · rw [h] at hj; cases hj
      · obtain ⟨h1, h2, h3⟩ := Oper.apart_spec (hap r hr)
        rw [hdst] at h2 h3
        exact ⟨execOp_put _ (hsel r) a _ _ h3, wanted_put _ a _ _ h3, fun v => by simp only [putD]; exact (Act.put_comm a _ _ h2).symm⟩
  intro fuel
  induction fuel with
  | zero =>
    intro val R IP st al' D F listed a w hf hL hIP hRI hR hRX hSX hst hD hFs hFS hF h
    simp only [List.length_append] at hf
    obtain rfl : R = [] := List.eq_nil_of_length_eq_zero (by omega)
    obtain rfl : Tl = [] := List.eq_nil_of_length_eq_zero (by omega)
    obtain rfl : al' = [] := List.eq_nil_of_length_eq_zero (by omega)
    obtain rfl : st = [] := by
      cases st with
      | nil => rfl
      | cons x _ => obtain ⟨B, e⟩ := x; simp [restC] at hf
    refine ⟨?_, ?_⟩
    · rw [List.eq_nil_iff_forall_not_mem]
      intro j hj
      have := (hL.iff j).1 (mem_ready.1 hj).1
      simp [restC] at this
    · have := hK _ _ D (by
        rcases hD with ⟨h1, h2⟩ | ⟨j, b, h1, _, h2, h3, h4⟩
        · exact .inl ⟨h1.symm, h2⟩
        · exact .inr ⟨j, b, h1, h2, h3, h4⟩) h
      exact this w hF
  | succ fuel ih =>
    intro val R IP st al' D F listed a w hf hL hIP hRI hR hRX hSX hst hD hFs hFS hF h
    have hp : R.Pairwise (Rel ops) := hIP.sublist hRI
    have hDx := hDX D (by
      rcases hD with ⟨_, h2⟩ | ⟨j, b, h1, _, h2, _⟩
      · exact .inl h2
      · exact .inr ⟨j, b, h1, h2⟩)
    have hal' : ∀ u, u ∈ al' → u ∈ al := by
      rcases hD with ⟨h1, _⟩ | ⟨j, b, _, h1, _⟩
      · rw [h1]; exact fun u h => h
      · rw [h1]; exact fun u h => by cases h
    by_cases hB : st = [] ∧ al' = []
    · obtain ⟨rfl, rfl⟩ := hB
      simp only [restC, List.nil_append] at hf hL
      refine wpAny_B hns hon (val := val) (IP := X) _ R Tl (FD te zs D F) listed _ w (by simpa using hf) hL hp (fun r hr => ⟨(hR r hr).1, fun u hu => (hR r hr).2 u (by simp [hu])⟩) hRX htl hlf (FD.stable hFs) (fun w h => hFS w h.one) hF ?_
      refine BW.mono (fun a' ⟨a0, e, hk⟩ => ?_) _ _ (BW.putD R a (fun r hr => hDx r (hRX r hr)) h)
      subst e
      exact hK _ _ D (by
        rcases hD with ⟨h1, h2⟩ | ⟨j, b, h1, _, h2, h3, h4⟩
        · exact .inl ⟨h1.symm, h2⟩
        · exact .inr ⟨j, b, h1, h2, h3, h4⟩) hk
    refine ⟨fun h0 => ?_, fun j hj => ?_⟩
    · exfalso
      have rdy : ∀ i, i ∈ R ++ (restC fin st ++ (al' ++ Tl)) → (∀ u ∈ R ++ (restC fin st ++ (al' ++ Tl)), deps ops i u = false) → False := fun i hi hd => by
        have := hL.ready hon hi hd
        rw [h0] at this; cases this
      match R, hf with
      | r :: R', _ =>
        refine rdy r (by simp) fun u hu => ?_
        obtain ⟨h1, h2⟩ := hR r (by simp)
        rcases List.mem_append.1 hu with hu | hu
        · rcases List.mem_cons.1 hu with rfl | hu
          · exact h1
          · exact ((List.pairwise_cons.1 hp).1 u hu).2
        · refine h2 u ?_
          simp only [List.mem_append] at hu ⊢
          rcases hu with hu | hu | hu
          · exact .inl hu
          · exact .inr (.inl (hal' u hu))
          · exact .inr (.inr hu)
      | [], _ =>
        match st, hst with
        | (B, e) :: st', hst =>
          simp only [stOk, Bool.and_eq_true] at hst
          refine rdy e (by simp [restC]) fun u hu => nd_spec hst.1.1.1.2 u ?_
          simp only [restC, List.nil_append, List.cons_append, List.mem_cons, List.mem_append] at hu ⊢
          rcases hu with hu | (hu | hu) | hu | hu
          · exact .inl hu
          · exact .inr (.inl (.inl hu))
          · exact .inr (.inl (.inr hu))
          · exact .inr (.inr (.inl (hal' u hu)))
          · exact .inr (.inr (.inr hu))
        | [], _ =>
          rcases hD with ⟨h1, h2⟩ | ⟨j, b, _, h1, _⟩
          · subst h1
            rcases hal with h | ⟨j, h, _, _, _, _, _, hnd⟩
            · exact hB ⟨rfl, h⟩
            · subst h
              exact rdy j (by simp) fun u hu => hnd u (by simp [restC] at hu ⊢; rcases hu with h | h <;> simp [h])
          · exact hB ⟨rfl, h1⟩
    · have hjU := (hL.iff j).1 (mem_ready.1 hj).1
      obtain ⟨hj0, o, ho, hdep⟩ := mem_ready.1 hj
      have hoj := opAt_of ho
      rcases List.mem_append.1 hjU with hjR | hjU
      · -- one of the values
        obtain ⟨R1, R2, rfl⟩ := List.append_of_mem hjR
        have hap : ∀ r ∈ R1, (opAt ops r).apart ops (opAt ops j) = true := by
          intro r hr
          rcases ((List.pairwise_append.1 hp).2.2 r hr j (by simp)).1 with hd | h1
          · exact (hL.notdep hj (by simp [hr]) hd).elim
          · exact h1
        obtain ⟨hyj, hrest⟩ := BW.remove hsel R1 a hap h
        obtain ⟨d1, d2, d3⟩ := hDx j (hRX j (by simp)) a
        have hyj := hyj.of_same d1 d2
        rw [hoj] at hyj hrest d3
        have hL' : Listed ops (listed.setIfInBounds j true) ((R1 ++ R2) ++ (restC fin st ++ (al' ++ Tl))) := by
          rw [List.append_assoc, List.cons_append] at hL
          rw [List.append_assoc]
          exact hL.rem
        have fin' : ∀ w', FD te zs D F w' → wpAny P .any ops Q fuel (listed.setIfInBounds j true) ((putD dA D a).put o.dst (val j)) w' := by
          intro w' hw'
          rw [d3]
          exact ih val (R1 ++ R2) IP st al' D F _ _ w' (by simp at hf ⊢; omega) hL' hIP (List.Sublist.trans (List.Sublist.append (List.Sublist.refl _) (List.sublist_cons_self _ _)) hRI) (fun r hr => hR r (by simp at hr ⊢; rcases hr with h1 | h1 <;> simp [h1])) (fun r hr => hRX r (by simp at hr ⊢; rcases hr with h1 | h1 <;> simp [h1])) hSX hst hD hFs hFS hw' hrest
        unfold wpOp
        simp only [ho]
        rcases hyj with ⟨hwd, hv⟩ | ⟨hwd, hu⟩
        · simp only [hwd, if_true]
          refine .inl ?_
          have hg := hv w (hFS _ hF.one)
          exact hg.upon fun w' hw' => fin' w' (FD.stable hFs _ _ hF hw')
        · simp only [hwd, Bool.false_eq_true, if_false]
          rw [hu] at fin'
          exact fin' w hF
      · match st, hst, hSX, hjU, h with
        | (B, e) :: st', hst, hSX, hjU, h =>
          simp only [stOk, Bool.and_eq_true] at hst
          obtain ⟨⟨⟨⟨s1, s2⟩, s3⟩, s4⟩, s5⟩ := hst
          by_cases hje : j = e
          · subst hje
            have hRIP : ∀ r ∈ R, r ∈ IP := fun r hr => hRI.subset hr
            have hap : ∀ r ∈ R, (opAt ops r).apart ops o = true := by
              intro r hr
              rcases apd_spec s1 r (hRIP r hr) with hd | h1
              · exact (hL.notdep hj (by simp [hr]) hd).elim
              · rw [hoj] at h1; exact h1
            obtain ⟨a1, hK1, he, hp'⟩ := BW.push' hsel (fun cs b => hsel' j o cs b ho) R a hap h
            obtain ⟨hg, hrun⟩ := hK1
            rw [hoj] at hg hrun
            obtain ⟨d1, d2, d3⟩ := hDx j (hSX j (by simp [restC])) a
            rw [hoj] at d1 d2 d3
            have hwd : Region.wanted o (yielded ops (putD dA D a).tmps) = true := by simp [Region.wanted, hg]
            unfold wpOp
            simp only [ho, hwd, if_true]
            refine .inl ?_
            unfold Oper.wp
            rw [d1, ← he]
            refine (hrun w hF.one).upon fun v w1 ⟨hfr, F', hs', he', hF1, hK2⟩ => ?_
            obtain ⟨q1, q2⟩ := pureSeq_spec (pures fin st') IP _ s3 hIP
            have hnP : (pures fin st').Nodup := by
              have := hL.nodup
              simp only [restC, List.nodup_append, List.cons_append, List.nodup_cons] at this
              exact this.2.1.2.1.1
            obtain ⟨val', hv'⟩ := BL.bwR (pures fin st') _ hnP (XG.split hK2)
            have hdis : ∀ r ∈ R, r ∉ pures fin st' := fun r hr hr2 => by
              have := hL.nodup
              rw [List.nodup_append] at this
              exact this.2.2 r hr r (by simp [restC, hr2]) rfl
            have hBW := BW.append R (pures fin st') _ hdis (hp' v _ hv')
            rw [d3]
            refine ih _ (R ++ pures fin st') (IP ++ pures fin st') st' al' D F' _ _ w1 ?_ ?_ q1 (hRI.append (List.Sublist.refl _)) ?_ ?_ (fun r hr => hSX r (by simp [restC, hr])) s5 hD hs' he' ?_ hBW
            · simp [restC] at hf ⊢; omega
            · have := hL
              simp only [restC, List.cons_append] at this
              have := this.rem
              simpa [List.append_assoc] using this
            · intro r hr
              rcases List.mem_append.1 hr with hr | hr
              · exact ⟨(hR r hr).1, fun u hu => (hR r hr).2 u (by simp [restC] at hu ⊢; rcases hu with h | h | h <;> simp [h])⟩
              · exact q2 r hr
            · intro r hr
              rcases List.mem_append.1 hr with hr | hr
              · exact hRX r hr
              · exact hSX r (by simp [restC, hr])
            · cases D with
              | none => exact hF1
              | some b =>
                obtain ⟨hF0, hb⟩ := hF
                rcases hD with ⟨_, h2⟩ | ⟨j', b', h1, _, h2, h3, h4⟩
                · cases h2
                · cases h2
                  exact ⟨hF1, (hfr (by simp [h1])).2 b h3 h4 _ _ hb⟩
          · by_cases hja : j ∈ al'
            · -- the allocation
              rcases hD with ⟨h1, h2⟩ | ⟨j', b, _, h1, _⟩
              · subst h1 h2
                rcases hal with h3 | ⟨j', h3, hdst, hg, hrun, hS, hapX, hnd⟩
                · rw [h3] at hja; cases hja
                · subst h3
                  simp only [List.mem_cons, List.not_mem_nil, or_false] at hja
                  subst hja
                  rw [hoj] at hg hrun hdst
                  have hwd : Region.wanted o (yielded ops (putD dA none a).tmps) = true := by simp [Region.wanted, hg]
                  unfold wpOp
                  simp only [ho, hwd, if_true]
                  refine .inl ?_
                  unfold Oper.wp
                  rw [hrun]
                  obtain ⟨n1, n2⟩ := hS w (hFS _ hF)
                  simp only [Oper.upon, hdst]
                  refine ih val R IP ((B, e) :: st') [] (some w.heap.size) F _ a _ ?_ ?_ hIP hRI hR hRX hSX ?_ (.inr ⟨j, _, rfl, rfl, rfl, n1, by omega⟩) hFs hFS ⟨hFs _ _ hF (Ext.alloc0 _ _), Blk.new w te zs⟩ h
                  · simp at hf ⊢; omega
                  · have := hL
                    rw [← List.append_assoc] at this
                    simp only [List.cons_append, List.nil_append] at this
                    have := this.rem
                    simpa [List.append_assoc] using this
                  · simp only [stOk, Bool.and_eq_true]
                    exact ⟨⟨⟨⟨s1, s2⟩, s3⟩, s4⟩, s5⟩
              · rw [h1] at hja; cases hja
            · exfalso
              have hj' : j ∈ pures fin st' ++ restC fin st' ++ Tl := by
                simp only [restC, List.cons_append, List.mem_cons, List.mem_append] at hjU ⊢
                rcases hjU with h | (h | h) | h | h
                · exact absurd h hje
                · exact .inl (.inl h)
                · exact .inl (.inr h)
                · exact absurd h hja
                · exact .inr h
              obtain ⟨u, hu, hd⟩ := blkd_spec _ [e] s4 j hj'
              refine hL.notdep hj ?_ hd
              simp only [restC, List.cons_append, List.mem_cons, List.mem_append, List.not_mem_nil, or_false] at hu ⊢
              rcases hu with h | (h | h) | h
              · exact .inr (.inl h)
              · exact .inr (.inr (.inl (.inl h)))
              · exact .inr (.inr (.inl (.inr h)))
              · exact .inr (.inr (.inr (.inr h)))
        | [], hst, hSX, hjU, h =>
          simp only [restC, List.nil_append] at hjU hL hf
          rcases hD with ⟨h1, h2⟩ | ⟨j', b, _, h1, _⟩
          · subst h1 h2
            rcases hal with h3 | ⟨j', h3, hdst, hg, hrun, hS, hapX, hnd⟩
            · exact absurd ⟨rfl, h3⟩ hB
            · subst h3
              by_cases hja : j = j'
              · subst hja
                rw [hoj] at hg hrun hdst
                have hwd : Region.wanted o (yielded ops (putD dA none a).tmps) = true := by simp [Region.wanted, hg]
                unfold wpOp
                simp only [ho, hwd, if_true]
                refine .inl ?_
                unfold Oper.wp
                rw [hrun]
                obtain ⟨n1, n2⟩ := hS w (hFS _ hF)
                simp only [Oper.upon, hdst]
                refine ih val R IP [] [] (some w.heap.size) F _ a _ ?_ ?_ hIP hRI hR hRX hSX rfl (.inr ⟨j, _, rfl, rfl, rfl, n1, by omega⟩) hFs hFS ⟨hFs _ _ hF (Ext.alloc0 _ _), Blk.new w te zs⟩ h
                · simp [restC] at hf ⊢; omega
                · have := hL
                  simp only [List.cons_append, List.nil_append] at this
                  have := this.rem
                  simpa [restC] using this
              · exfalso
                have hj' : j ∈ Tl := by simpa [hja] using hjU
                rcases hbl with hb | hb
                · cases hb
                · obtain ⟨u, hu, hd⟩ := blkd_spec Tl [j'] hb j hj'
                  refine hL.notdep hj ?_ hd
                  simp only [List.mem_append, List.mem_cons, List.not_mem_nil, or_false] at hu ⊢
                  exact .inr hu
          · exact absurd ⟨rfl, h1⟩ hB

def pick1 (l : List Oper) (i : Nat) : Oper := match l.drop i with | o :: _ => o | [] => default
theorem pick1_eq (l : List Oper) (i : Nat) : pick1 l i = opAt l.toArray i := by
  unfold opAt pick1
  rw [Array.getD_eq_getD_getElem?, List.getElem?_toArray, ← List.head?_drop]
  cases l.drop i <;> rfl
def XO (P : Program) (l : List Oper) (S : World → Prop) (al : Bool) (n0 g : Nat) (fin : List Nat) (K : Act → (World → Prop) → Prop) : List (List Nat × Nat) → Act → (World → Prop) → Prop
  | [], a, F => BL P l.toArray S (pick l fin) a fun a' => K a' F
  | (Bd, e) :: st, a, F => BL P l.toArray S (pick l Bd) a fun a' => EffC P S al n0 g (pick1 l e) a' F fun a'' F' => XO P l S al n0 g fin K st a'' F'
theorem XO.xg {l : List Oper} {al : Bool} {n0 g : Nat} {fin : List Nat} {K : Act → (World → Prop) → Prop} : ∀ {st : List (List Nat × Nat)} {a : Act} {F : World → Prop}, XO P l S al n0 g fin K st a F → XG P l.toArray S al n0 g fin K st a F
  | [], _, _, h => by simpa [XO, XG, pick_eq] using h
  | (Bd, e) :: st, a, F, h => by
    simp only [XO, XG, pick_eq, pick1_eq] at h ⊢
    have mono : ∀ (L : List Oper) (a : Act) (K1 K2 : Act → Prop), (∀ a, K1 a → K2 a) → BL P l.toArray S L a K1 → BL P l.toArray S L a K2 := by
      intro L
      induction L with
      | nil => intro a K1 K2 hk h; exact hk _ h
      | cons o r ih => intro a K1 K2 hk h; obtain ⟨v, h1, h2⟩ := h; exact ⟨v, h1, ih _ _ _ hk h2⟩
    refine mono _ _ _ _ (fun a1 h1 => ⟨h1.1, fun w hw => ?_⟩) h
    have h2 := h1.2 w hw
    revert h2
    cases (execOp a1.eval (opAt l.toArray e)).run P w with
    | halt x w' => exact id
    | ok n w' =>
      cases n <;> simp only [RunsTo]
      case value u => exact fun ⟨h3, F', h4, h5, h6, h7⟩ => ⟨h3, F', h4, h5, h6, XO.xg h7⟩
      case skip => exact fun ⟨h3, F', h4, h5, h6, h7⟩ => ⟨h3, F', h4, h5, h6, XO.xg h7⟩
      case enter f args => exact fun h => h.mono fun e w'' ⟨v, h8, h3, F', h4, h5, h6, h7⟩ => ⟨v, h8, h3, F', h4, h5, h6, XO.xg h7⟩
      all_goals exact id

def dstOf (l : List Oper) : List Nat → Option Nat
  | [] => none
  | j :: _ => (pick1 l j).dst
theorem wp_region_chain {id : Nat} {l : List Oper} (lf : Bool) (st : List (List Nat × Nat)) (fin al Tl : List Nat) (S F : World → Prop) (n0 g : Nat) (te : TypeId) (zs : Array Value) {a : Act} {w : World} (hFs : Stable F) (hFS : ∀ w, F w → S w) (hF : F w.drew)
    (hm : P.follows .mixedOrders = true) (hok : chainOk l.toArray lf st fin al Tl = true)
    (hal : al = [] ∨ ∃ j, al = [j] ∧ (pick1 l j).guard = none ∧ (∀ (a : Act) w, (execOp a.eval (pick1 l j)).run P w = .ok (.value (.pointer (some ⟨w.heap.size, 0, none⟩))) (w.alloc (.cells zs te))) ∧ (∀ w, S w → n0 ≤ w.heap.size ∧ g < w.heap.size))
    (h : XO P l S (!al.isEmpty) n0 g fin (fun a' F' => (al = [] → TL P S Q lf (pick l Tl) a' F') ∧ ∀ j b, al = [j] → n0 ≤ b → b ≠ g → TL P S Q lf (pick l Tl) (a'.put (pick1 l j).dst (.pointer (some ⟨b, 0, none⟩))) (fun w => F' w ∧ Blk w b te zs)) st a F) :
    (Code.region id l.toArray true).wp P Q a w := by
  simp only [chainOk, Bool.and_eq_true, decide_eq_true_eq] at hok
  obtain ⟨⟨⟨⟨⟨⟨⟨⟨⟨⟨hns, hon⟩, ⟨hnd, hlt⟩, hcov⟩, hps⟩, hst⟩, htl⟩, hbl⟩, haln⟩, hap⟩, hl1⟩, hlfc⟩ := hok
  have hn := List.nodup_append.1 hnd
  obtain ⟨q1, q2⟩ := pureSeq_spec _ _ _ hps List.Pairwise.nil
  simp only [List.nil_append] at q1
  obtain ⟨val, hv⟩ := BL.bwR (pures fin st) a hn.1 (XG.split (XO.xg h))
  refine wp_region_any hm ?_
  refine wpAny_A (lf := lf) (dA := dstOf l al) (te := te) (zs := zs) (n0 := n0) (g := g) (K := (fun a' F' => (al = [] → TL P S Q lf (pick l Tl) a' F') ∧ ∀ j b, al = [j] → n0 ≤ b → b ≠ g → TL P S Q lf (pick l Tl) (a'.put (pick1 l j).dst (.pointer (some ⟨b, 0, none⟩))) (fun w => F' w ∧ Blk w b te zs))) (X := pures fin st ++ restC fin st) (al := al) (Tl := Tl) (S := S) hns (fun i hi => (List.all_eq_true.1 hon) i (List.mem_range.2 hi)) ?_ ?_ htl (fun h1 t ht r hr => by subst h1; rw [ht] at hlfc; exact (List.all_eq_true.1 hlfc) r hr) ?_ _ val (pures fin st) (pures fin st) st al none F _ a _ ?_ ?_ q1 (List.Sublist.refl _) q2 (fun r hr => by simp [hr]) (fun r hr => by simp [hr]) hst (.inl ⟨rfl, rfl⟩) hFs hFS hF hv
  · rcases hal with h | ⟨j, h, hg, hrun, hS⟩
    · exact .inl h
    · subst h
      refine .inr ⟨j, rfl, by rw [dstOf, pick1_eq], by rw [← pick1_eq]; exact hg, fun a w => by rw [← pick1_eq]; exact hrun a w, hS, fun r hr => ?_, fun r hr => ?_⟩
      · have := (List.all_eq_true.1 hap) j (by simp)
        exact (List.all_eq_true.1 this) r hr
      · have := (List.all_eq_true.1 haln) j (by simp)
        exact nd_spec this r (by simpa [List.append_assoc] using hr)
  · intro a' F' D hD ⟨k1, k2⟩
    rw [← pick_eq]
    rcases hD with ⟨h1, rfl⟩ | ⟨j, b, h1, rfl, h3, h4⟩
    · exact k1 h1
    · subst h1
      exact k2 j b rfl h3 h4
  · rcases al with _ | ⟨j, r⟩
    · exact .inl rfl
    · exact .inr (by simpa using hbl)
  · have h1 : (pures fin st ++ (restC fin st ++ (al ++ Tl))).Perm (List.range l.toArray.size) := by
      refine (List.perm_ext_iff_of_nodup hnd List.nodup_range).2 fun i => ?_
      rw [List.mem_range]
      constructor
      · intro hi
        have := (List.all_eq_true.1 hlt) i hi
        exact of_decide_eq_true this
      · intro hi
        have := (List.all_eq_true.1 hcov) i (List.mem_range.2 hi)
        exact List.contains_iff_mem.1 this
    have := h1.length_eq
    rw [List.length_range, List.size_toArray] at this
    simp only [this, List.size_toArray]
  · refine ⟨by simp, fun i => ?_, fun i hi => of_decide_eq_true ((List.all_eq_true.1 hlt) i hi), hnd⟩
    have hm1 : i ∈ pures fin st ++ (restC fin st ++ (al ++ Tl)) ↔ i < l.length := by
      constructor
      · intro hi
        have := of_decide_eq_true ((List.all_eq_true.1 hlt) i hi)
        simpa using this
      · intro hi
        have := (List.all_eq_true.1 hcov) i (List.mem_range.2 (by simpa using hi))
        exact List.contains_iff_mem.1 this
    rw [hm1]
    rcases Nat.lt_or_ge i l.length with hi | hi
    · simp [hi]
    · simp only [Nat.not_lt.2 hi, iff_false]
      rw [Array.getD_eq_getD_getElem?, Array.getElem?_eq_none (by rw [Array.size_replicate, List.size_toArray]; exact hi)]
      simp

theorem EffC.mono {al : Bool} {n0 g : Nat} {o : Oper} {a : Act} {F : World → Prop} {K1 K2 : Act → (World → Prop) → Prop} (hk : ∀ a F, K1 a F → K2 a F) (h : EffC P S al n0 g o a F K1) : EffC P S al n0 g o a F K2 := by
  refine ⟨h.1, fun w hw => ?_⟩
  have h2 := h.2 w hw
  revert h2
  cases (execOp a.eval o).run P w with
  | halt x w' => exact id
  | ok n w' =>
    cases n <;> simp only [RunsTo]
    case value u => exact fun ⟨h3, F', h4, h5, h6, h7⟩ => ⟨h3, F', h4, h5, h6, hk _ _ h7⟩
    case skip => exact fun ⟨h3, F', h4, h5, h6, h7⟩ => ⟨h3, F', h4, h5, h6, hk _ _ h7⟩
    case enter f args => exact fun h => h.mono fun e w'' ⟨v, h8, h3, F', h4, h5, h6, h7⟩ => ⟨v, h8, h3, F', h4, h5, h6, hk _ _ h7⟩
    all_goals exact id
theorem BL.mono {ops : Array Oper} : ∀ (L : List Oper) (a : Act) (K1 K2 : Act → Prop), (∀ a, K1 a → K2 a) → BL P ops S L a K1 → BL P ops S L a K2
  | [], _, _, _, hk, h => hk _ h
  | _ :: r, _, K1, K2, hk, ⟨v, h1, h2⟩ => ⟨v, h1, BL.mono r _ K1 K2 hk h2⟩
theorem XO.mono {l : List Oper} {al : Bool} {n0 g : Nat} {fin : List Nat} {K1 K2 : Act → (World → Prop) → Prop} (hk : ∀ a F, K1 a F → K2 a F) : ∀ (st : List (List Nat × Nat)) (a : Act) (F : World → Prop), XO P l S al n0 g fin K1 st a F → XO P l S al n0 g fin K2 st a F
  | [], a, F, h => BL.mono _ a _ _ (fun a h => hk a F h) h
  | (_, _) :: st, a, _, h => BL.mono _ a _ _ (fun _ h => EffC.mono (fun a F h => XO.mono hk st a F h) h) h
theorem wp_region_chain1 {id : Nat} {l : List Oper} (lf : Bool) (st : List (List Nat × Nat)) (fin : List Nat) (j : Nat) (Tl : List Nat) (S F : World → Prop) (n0 g : Nat) (te : TypeId) (zs : Array Value) {a : Act} {w : World} (hFs : Stable F) (hFS : ∀ w, F w → S w) (hF : F w.drew)
    (hm : P.follows .mixedOrders = true) (hok : chainOk l.toArray lf st fin [j] Tl = true) (hg : (pick1 l j).guard = none)
    (hrun : ∀ (a : Act) w, (execOp a.eval (pick1 l j)).run P w = .ok (.value (.pointer (some ⟨w.heap.size, 0, none⟩))) (w.alloc (.cells zs te))) (hS : ∀ w, S w → n0 ≤ w.heap.size ∧ g < w.heap.size)
    (h : XO P l S true n0 g fin (fun a' F' => ∀ b, n0 ≤ b → b ≠ g → TL P S Q lf (pick l Tl) (a'.put (pick1 l j).dst (.pointer (some ⟨b, 0, none⟩))) (fun w => F' w ∧ Blk w b te zs)) st a F) : (Code.region id l.toArray true).wp P Q a w := by
  refine wp_region_chain lf st fin [j] Tl S F n0 g te zs hFs hFS hF hm hok (.inr ⟨j, rfl, hg, hrun, hS⟩) ?_
  exact XO.mono (fun a F h => ⟨fun hx => (by cases hx), fun j' b hx h1 h2 => by cases hx; exact h b h1 h2⟩) _ _ _ h

theorem tl_last {o : Oper} {a : Act} {F : World → Prop} (hg : o.guard = none) (hd : o.dst = none) (hrun : ∀ w, F w → ∃ w1, (execOp a.eval o).run P w = .ok .skip w1 ∧ Q .normal a w1) : TL P S Q true [o] a F :=
  ⟨hg, fun w hw => by
    obtain ⟨w1, h1, h2⟩ := hrun w hw
    rw [h1]
    exact .inl ⟨rfl, rfl, by rw [hd]; exact h2⟩⟩
end
end Go.Proofs.YtiladlangkjoiaaGreat
