/- A region that draws its order: operations with effects that come one after the other, between them operations whose values are fixed; one allocation at any time; a tail. No condition. A region that draws its order: a body whose values are fixed, then effects that may need one another, in whatever order these allow, then a tail in a forced order. No condition. -/
import Derived.Test.YtfniicgoeljmdaaGreatNameW
namespace Go.Proofs.YtfniicgoeljmdaaGreat
open Go.RowKit

def Fr (n0 g : Nat) (w w1 : World) : Prop := w.heap.size ≤ w1.heap.size ∧ ∀ b, n0 ≤ b → b ≠ g → ∀ t cs, Blk w b t cs → Blk w1 b t cs

section
variable {P : Program} {ops : Array Oper} {Q : Exit → Act → World → Prop} {S : World → Prop}

def TL (P : Program) (S : World → Prop) (Q : Exit → Act → World → Prop) (lf : Bool) : List Oper → Act → (World → Prop) → Prop
  | [], a, F => ∀ w, F w → Q .normal a w
  | o :: T, a, F => o.guard = none ∧ ∀ w, F w → RunsTo P (fun v w1 => (lf = true ∧ T = [] ∧ Q .normal (a.put o.dst v) w1) ∨ ∃ F' : World → Prop, Stable F' ∧ (∀ w, F' w → S w) ∧ F' w1 ∧ TL P S Q lf T (a.put o.dst v) F') ((execOp a.eval o).run P w)

def EffC (P : Program) (S : World → Prop) (al : Bool) (n0 g : Nat) (o : Oper) (a : Act) (F : World → Prop) (K : Act → (World → Prop) → Prop) : Prop :=
  o.guard = none ∧ ∀ w, F w → RunsTo P (fun v w1 => (al = true → Fr n0 g w w1) ∧ ∃ F' : World → Prop, Stable F' ∧ (∀ w, F' w → S w) ∧ F' w1 ∧ K (a.put o.dst v) F') ((execOp a.eval o).run P w)

def XG (P : Program) (ops : Array Oper) (S : World → Prop) (al : Bool) (n0 g : Nat) (fin : List Nat) (K : Act → (World → Prop) → Prop) : List (List Nat × Nat) → Act → (World → Prop) → Prop
  | [], a, F => BL P ops S (fin.map (opAt ops)) a fun a' => K a' F
  | (Bd, e) :: st, a, F => BL P ops S (Bd.map (opAt ops)) a fun a' => EffC P S al n0 g (opAt ops e) a' F fun a'' F' => XG P ops S al n0 g fin K st a'' F'

def XE (P : Program) (ops : Array Oper) (S : World → Prop) (al : Bool) (n0 g : Nat) (fin : List Nat) (K : Act → (World → Prop) → Prop) : List (List Nat × Nat) → Act → (World → Prop) → Prop
  | [], a, F => K a F
  | (_, e) :: st, a, F => EffC P S al n0 g (opAt ops e) a F fun a'' F' => XG P ops S al n0 g fin K st a'' F'
def pures (fin : List Nat) : List (List Nat × Nat) → List Nat
  | [] => fin
  | (Bd, _) :: _ => Bd
theorem XG.split {al : Bool} {n0 g : Nat} {fin : List Nat} {K : Act → (World → Prop) → Prop} : ∀ {st : List (List Nat × Nat)} {a : Act} {F : World → Prop}, XG P ops S al n0 g fin K st a F → BL P ops S ((pures fin st).map (opAt ops)) a fun a' => XE P ops S al n0 g fin K st a' F
  | [], _, _, h => h
  | (_, _) :: _, _, _, h => h

theorem BW.append {val val' : Nat → Value} {K : Act → Prop} : ∀ (R1 R2 : List Nat) (a : Act), (∀ r ∈ R1, r ∉ R2) → BW P ops S val R1 a (fun a' => BW P ops S val' R2 a' K) → BW P ops S (fun i => if i ∈ R1 then val i else val' i) (R1 ++ R2) a K
  | [], R2, a, _, h => by
    have : (fun i => if i ∈ ([] : List Nat) then val i else val' i) = val' := by funext i; simp
    rw [this]; exact h
  | r :: R1, R2, a, hd, h => by
    obtain ⟨hr, h⟩ := h
    simp only [List.cons_append, BW, List.mem_cons, true_or, if_true]
    refine ⟨hr, ?_⟩
    have ih := BW.append R1 R2 _ (fun x hx => hd x (by simp [hx])) h
    have congr : ∀ (v v' : Nat → Value) (R : List Nat) (a : Act), (∀ r ∈ R, v r = v' r) → BW P ops S v R a K → BW P ops S v' R a K := by
      intro v v' R
      induction R with
      | nil => intro a _ h; exact h
      | cons x R ih2 =>
        intro a hv h
        simp only [BW, ← hv x (by simp)] at h ⊢
        exact ⟨h.1, ih2 _ (fun y hy => hv y (by simp [hy])) h.2⟩
    refine congr _ _ _ _ (fun x hx => ?_) ih
    by_cases h1 : x ∈ R1
    · simp [h1]
    · have h2 : x ∈ R2 := by rcases List.mem_append.1 hx with h | h; exact absurd h h1; exact h
      by_cases h3 : x = r
      · exact absurd (h3 ▸ h2) (hd r (by simp))
      · simp [h1, h3]

def nd (ops : Array Oper) (i : Nat) (U : List Nat) : Bool := U.all fun u => !deps ops i u
def apd (ops : Array Oper) (R : List Nat) (j : Nat) : Bool := R.all fun r => deps ops j r || (opAt ops r).apart ops (opAt ops j)
theorem nd_spec {i : Nat} {U : List Nat} (h : nd ops i U = true) : ∀ u ∈ U, deps ops i u = false := fun u hu => by
  have := (List.all_eq_true.1 h) u hu
  simpa using this
theorem apd_spec {R : List Nat} {j : Nat} (h : apd ops R j = true) : ∀ r ∈ R, deps ops j r = true ∨ (opAt ops r).apart ops (opAt ops j) = true := fun r hr => by
  have := (List.all_eq_true.1 h) r hr
  simpa using this
def restC (fin : List Nat) : List (List Nat × Nat) → List Nat
  | [] => []
  | (_, e) :: st => e :: (pures fin st ++ restC fin st)
def pureSeq (ops : Array Oper) (IP later : List Nat) : List Nat → Bool
  | [] => true
  | j :: N => apd ops IP j && (IP.all fun r => !deps ops r j) && nd ops j (j :: N ++ later) && pureSeq ops (IP ++ [j]) later N
def blkd (ops : Array Oper) (pre : List Nat) : List Nat → Bool
  | [] => true
  | j :: T => (pre.any fun u => deps ops j u) && blkd ops (j :: pre) T
def stOk (ops : Array Oper) (fin al Tl : List Nat) (IP : List Nat) : List (List Nat × Nat) → Bool
  | [] => true
  | (_, e) :: st => apd ops IP e && nd ops e (e :: (pures fin st ++ restC fin st) ++ (al ++ Tl)) && pureSeq ops IP (restC fin st ++ (al ++ Tl)) (pures fin st) && blkd ops [e] (pures fin st ++ restC fin st ++ Tl) && stOk ops fin al Tl (IP ++ pures fin st) st
def tlOk (ops : Array Oper) (IP : List Nat) : List Nat → Bool
  | [] => true
  | t :: T => apd ops IP t && nd ops t (t :: T) && blkd ops [t] T && tlOk ops IP T
def chainOk (ops : Array Oper) (lf : Bool) (st : List (List Nat × Nat)) (fin al Tl : List Nat) : Bool :=
  Region.noSelect ops && ((List.range ops.size).all fun i => onlyOn ops i fun r => decide (r < ops.size)) &&
  (decide (pures fin st ++ (restC fin st ++ (al ++ Tl))).Nodup && ((pures fin st ++ (restC fin st ++ (al ++ Tl))).all fun i => decide (i < ops.size)) && (List.range ops.size).all fun i => (pures fin st ++ (restC fin st ++ (al ++ Tl))).contains i) &&
  pureSeq ops [] (restC fin st ++ (al ++ Tl)) (pures fin st) && stOk ops fin al Tl (pures fin st) st && tlOk ops (pures fin st ++ restC fin st) Tl && (al.isEmpty || blkd ops al Tl) && al.all (fun j => nd ops j (pures fin st ++ (restC fin st ++ (al ++ Tl)))) &&
  al.all (fun j => (pures fin st ++ restC fin st).all fun r => (opAt ops r).apart ops (opAt ops j)) && decide (al.length ≤ 1) &&
  (!lf || match Tl.getLast? with | none => true | some t => (pures fin st ++ restC fin st).all fun r => deps ops t r)

def Rel (ops : Array Oper) (r j : Nat) : Prop := (deps ops j r = true ∨ (opAt ops r).apart ops (opAt ops j) = true) ∧ deps ops r j = false

theorem pureSeq_spec : ∀ (N IP later : List Nat), pureSeq ops IP later N = true → IP.Pairwise (Rel ops) → (IP ++ N).Pairwise (Rel ops) ∧ ∀ j ∈ N, deps ops j j = false ∧ ∀ u ∈ later, deps ops j u = false
  | [], IP, later, _, hp => ⟨by simpa using hp, fun j hj => by cases hj⟩
  | j :: N, IP, later, h, hp => by
    simp only [pureSeq, Bool.and_eq_true] at h
    obtain ⟨⟨⟨h1, h2⟩, h3⟩, h4⟩ := h
    have hd := nd_spec h3
    have hp' : (IP ++ [j]).Pairwise (Rel ops) := by
      rw [List.pairwise_append]
      refine ⟨hp, by simp, fun r hr x hx => ?_⟩
      simp only [List.mem_cons, List.not_mem_nil, or_false] at hx
      subst hx
      have := (List.all_eq_true.1 h2) r hr
      exact ⟨apd_spec h1 r hr, by simpa using this⟩
    obtain ⟨q1, q2⟩ := pureSeq_spec N (IP ++ [j]) later h4 hp'
    refine ⟨by simpa using q1, fun x hx => ?_⟩
    rcases List.mem_cons.1 hx with rfl | hx
    · exact ⟨hd x (by simp), fun u hu => hd u (by simp [hu])⟩
    · exact q2 x hx
theorem blkd_spec : ∀ (T pre : List Nat), blkd ops pre T = true → ∀ j ∈ T, ∃ u, (u ∈ pre ∨ u ∈ T) ∧ deps ops j u = true
  | [], _, _, j, hj => by cases hj
  | i :: T, pre, h, j, hj => by
    simp only [blkd, Bool.and_eq_true, List.any_eq_true] at h
    rcases List.mem_cons.1 hj with rfl | hj
    · obtain ⟨u, hu, hd⟩ := h.1
      exact ⟨u, .inl hu, hd⟩
    · obtain ⟨u, hu, hd⟩ := blkd_spec T (i :: pre) h.2 j hj
      refine ⟨u, ?_, hd⟩
      rcases hu with hu | hu
      · rcases List.mem_cons.1 hu with rfl | hu
        · exact .inr (by simp)
        · exact .inl hu
      · exact .inr (by simp [hu])

structure Listed (ops : Array Oper) (listed : Array Bool) (U : List Nat) : Prop where
  size : listed.size = ops.size
  iff : ∀ i, listed.getD i true = false ↔ i ∈ U
  lt : ∀ i ∈ U, i < ops.size
  nodup : U.Nodup
theorem Listed.set {listed : Array Bool} {U : List Nat} {j : Nat} {U' : List Nat} (h : Listed ops listed U) (hj : j ∈ U) (hU : ∀ i, i ∈ U' ↔ i ∈ U ∧ i ≠ j) (hn : U'.Nodup) : Listed ops (listed.setIfInBounds j true) U' := by
  refine ⟨by simpa using h.size, fun i => ?_, fun i hi => h.lt i ((hU i).1 hi).1, hn⟩
  by_cases hij : j = i
  · subst hij
    have hjs : j < listed.size := by have := h.lt j hj; have := h.size; omega
    constructor
    · intro hx; simp [hjs] at hx
    · intro hx; exact absurd rfl ((hU j).1 hx).2
  · rw [getD_set_ne true hij, h.iff i, hU i]
    exact ⟨fun hx => ⟨hx, fun e => hij e.symm⟩, fun hx => hx.1⟩
theorem Listed.notdep {listed : Array Bool} {U : List Nat} (h : Listed ops listed U) {j r : Nat} (hj : j ∈ Region.ready .any ops listed) (hr : r ∈ U) (hd : deps ops j r = true) : False := by
  obtain ⟨hj0, o, ho, hdep⟩ := mem_ready.1 hj
  obtain ⟨e, he, hb, hon⟩ := deps_spec.1 hd
  have hoj : opAt ops j = o := by simp [opAt, Array.getD_eq_getD_getElem?, ho]
  rw [hoj] at he
  have h1 := hdep e he hb
  have h2 := (h.iff r).2 hr
  rw [hon] at h1
  have : r < listed.size := by have := h.lt r hr; have := h.size; omega
  simp [this] at h1 h2
  rw [h2] at h1; cases h1
theorem Listed.ready {listed : Array Bool} {U : List Nat} (h : Listed ops listed U) (hon : ∀ i, i < ops.size → onlyOn ops i (fun r => decide (r < ops.size)) = true) {i : Nat} (hi : i ∈ U) (hd : ∀ u ∈ U, deps ops i u = false) : i ∈ Region.ready .any ops listed := by
  have hil := h.lt i hi
  refine mem_ready.2 ⟨(h.iff i).2 hi, opAt ops i, by simp [opAt, Array.getD_eq_getD_getElem?, Array.getElem?_eq_getElem hil], fun e he hb => ?_⟩
  have hlt := onlyOn_spec (hon i hil) e he hb
  simp only [decide_eq_true_eq] at hlt
  have hne : ¬ e.on ∈ U := fun hx => by
    have := hd e.on hx
    rw [deps_spec.2 ⟨e, he, hb, rfl⟩] at this
    cases this
  have h1 : listed.getD e.on true ≠ false := fun hx => hne ((h.iff _).1 hx)
  have hi' : e.on < listed.size := by have := h.size; omega
  simp [hi'] at h1 ⊢
  exact h1
theorem opAt_of {j : Nat} {o : Oper} (h : ops[j]? = some o) : opAt ops j = o := by simp [opAt, Array.getD_eq_getD_getElem?, h]
theorem Listed.rem {listed : Array Bool} {A B : List Nat} {j : Nat} (h : Listed ops listed (A ++ j :: B)) : Listed ops (listed.setIfInBounds j true) (A ++ B) := by
  have hn := h.nodup
  rw [List.nodup_append, List.nodup_cons] at hn
  obtain ⟨h1, ⟨h2, h3⟩, h4⟩ := hn
  refine h.set (by simp) (fun i => ?_) (List.nodup_append.2 ⟨h1, h3, fun x hx y hy => h4 x hx y (by simp [hy])⟩)
  simp only [List.mem_append, List.mem_cons]
  constructor
  · rintro (hi | hi)
    · exact ⟨.inl hi, h4 i hi j (by simp)⟩
    · exact ⟨.inr (.inr hi), fun e => h2 (e ▸ hi)⟩
  · rintro ⟨hi | hi | hi, hne⟩
    · exact .inl hi
    · exact absurd hi hne
    · exact .inr hi

theorem wpAny_B (hns : Region.noSelect ops = true) (hon : ∀ i, i < ops.size → onlyOn ops i (fun r => decide (r < ops.size)) = true) {lf : Bool} {val : Nat → Value} {IP : List Nat} : ∀ (fuel : Nat) (R T : List Nat) (F : World → Prop) (listed : Array Bool) (a : Act) (w : World),
    fuel = R.length + T.length → Listed ops listed (R ++ T) → R.Pairwise (Rel ops) → (∀ r ∈ R, deps ops r r = false ∧ ∀ u ∈ T, deps ops r u = false) → (∀ r ∈ R, r ∈ IP) → tlOk ops IP T = true → (lf = true → ∀ t, T.getLast? = some t → ∀ r ∈ IP, deps ops t r = true) →
    Stable F → (∀ w, F w → S w) → F w → BW P ops S val R a (fun a' => TL P S Q lf (T.map (opAt ops)) a' F) → wpAny P .any ops Q fuel listed a w := by
  have hsel' : ∀ (i : Nat) (o : Oper) (cs : Array SelectCase) (b : Bool), ops[i]? = some o → o.op ≠ .select cs b := fun i o cs b hi => Region.noSelect_spec hns i o cs b hi
  have hsel : ∀ i cs b, (opAt ops i).op ≠ .select cs b := fun i cs b => by
    unfold opAt
    rw [Array.getD_eq_getD_getElem?]
    cases hi : ops[i]? with
    | none => simp [default, instInhabitedOper.default, instInhabitedOp.default]
    | some o => exact hsel' i o cs b hi
  intro fuel
  induction fuel with
  | zero =>
    intro R T F listed a w hf hL hp hR hIP ht hlf hFs hFS hF h
    obtain rfl : R = [] := List.eq_nil_of_length_eq_zero (by omega)
    obtain rfl : T = [] := List.eq_nil_of_length_eq_zero (by omega)
    refine ⟨?_, h w hF⟩
    rw [List.eq_nil_iff_forall_not_mem]
    intro j hj
    have := (hL.iff j).1 (mem_ready.1 hj).1
    simp at this
  | succ fuel ih =>
    intro R T F listed a w hf hL hp hR hIP ht hlf hFs hFS hF h
    refine ⟨fun h0 => ?_, fun j hj => ?_⟩
    · exfalso
      have rdy : ∀ i, i ∈ R ++ T → (∀ u ∈ R ++ T, deps ops i u = false) → False := fun i hi hd => by
        have := hL.ready hon hi hd
        rw [h0] at this; cases this
      match R, T, hf with
      | r :: R', T, _ =>
        refine rdy r (by simp) fun u hu => ?_
        obtain ⟨h1, h2⟩ := hR r (by simp)
        rcases List.mem_append.1 hu with hu | hu
        · rcases List.mem_cons.1 hu with rfl | hu
          · exact h1
          · exact ((List.pairwise_cons.1 hp).1 u hu).2
        · exact h2 u hu
      | [], t :: T', _ =>
        simp only [tlOk, Bool.and_eq_true] at ht
        exact rdy t (by simp) (nd_spec ht.1.1.2)
    · have hjU := (hL.iff j).1 (mem_ready.1 hj).1
      obtain ⟨hj0, o, ho, hdep⟩ := mem_ready.1 hj
      have hoj := opAt_of ho
      rcases List.mem_append.1 hjU with hjR | hjT
      · obtain ⟨R1, R2, rfl⟩ := List.append_of_mem hjR
        have hap : ∀ r ∈ R1, (opAt ops r).apart ops (opAt ops j) = true := by
          intro r hr
          rcases ((List.pairwise_append.1 hp).2.2 r hr j (by simp)).1 with hd | h1
          · exact (hL.notdep hj (by simp [hr]) hd).elim
          · exact h1
        obtain ⟨hyj, hrest⟩ := BW.remove hsel R1 a hap h
        rw [hoj] at hyj hrest
        have hL' : Listed ops (listed.setIfInBounds j true) ((R1 ++ R2) ++ T) := by
          rw [List.append_assoc, List.cons_append] at hL
          rw [List.append_assoc]
          exact hL.rem
        have fin : ∀ w', F w' → wpAny P .any ops Q fuel (listed.setIfInBounds j true) (a.put o.dst (val j)) w' := by
          intro w' hw'
          refine ih (R1 ++ R2) T F _ _ w' (by simp at hf ⊢; omega) hL' ?_ (fun r hr => hR r (by simp at hr ⊢; rcases hr with h1 | h1 <;> simp [h1])) (fun r hr => hIP r (by simp at hr ⊢; rcases hr with h1 | h1 <;> simp [h1])) ht hlf hFs hFS hw' hrest
          have h1 := List.pairwise_append.1 hp
          have h2 := List.pairwise_cons.1 h1.2.1
          exact List.pairwise_append.2 ⟨h1.1, h2.2, fun x hx y hy => h1.2.2 x hx y (by simp [hy])⟩
        unfold wpOp
        simp only [ho]
        rcases hyj with ⟨hwd, hv⟩ | ⟨hwd, hu⟩
        · simp only [hwd, if_true]
          refine .inl ?_
          have hg := hv w (hFS _ hF)
          exact hg.upon fun w' hw' => fin w' (hFs _ _ hF hw')
        · simp only [hwd, Bool.false_eq_true, if_false]
          rw [hu] at fin
          exact fin w hF
      · match T, hjT with
        | i :: T', hjT =>
          simp only [tlOk, Bool.and_eq_true] at ht
          obtain ⟨⟨⟨t1, t2⟩, t3⟩, t4⟩ := ht
          have hji : j = i := by
            rcases List.mem_cons.1 hjT with h1 | h1
            · exact h1
            · exfalso
              obtain ⟨u, hu, hd⟩ := blkd_spec T' [i] t3 j h1
              exact hL.notdep hj (by simp only [List.mem_append, List.mem_cons, List.not_mem_nil, or_false] at hu ⊢; exact .inr hu) hd
          subst hji
          have hap : ∀ r ∈ R, (opAt ops r).apart ops o = true := by
            intro r hr
            rcases apd_spec t1 r (hIP r hr) with hd | h1
            · exact (hL.notdep hj (by simp [hr]) hd).elim
            · rw [hoj] at h1; exact h1
          obtain ⟨a1, hK, he, hp'⟩ := BW.push' hsel (fun cs b => hsel' j o cs b ho) R a hap h
          simp only [List.map_cons, TL] at hK
          obtain ⟨hg, hrun⟩ := hK
          rw [hoj] at hg hrun
          have hwd : Region.wanted o (yielded ops a.tmps) = true := by simp [Region.wanted, hg]
          unfold wpOp
          simp only [ho, hwd, if_true]
          refine .inl ?_
          unfold Oper.wp
          rw [← he]
          refine (hrun w hF).upon fun v w1 hor => ?_
          rcases hor with ⟨hl1, hT0, hQ⟩ | ⟨F', hs', he', hF1, hK1⟩
          · have hT0 : T' = [] := by simpa using hT0
            subst hT0
            obtain rfl : R = [] := by
              rw [List.eq_nil_iff_forall_not_mem]
              intro r hr
              exact hL.notdep hj (by simp [hr]) (hlf hl1 j rfl r (hIP r hr))
            obtain rfl : fuel = 0 := by simp at hf; omega
            refine ⟨?_, by have := hp' v (fun a' => Q .normal a' w1) hQ; exact this⟩
            have hL0 := hL.rem
            rw [List.eq_nil_iff_forall_not_mem]
            intro i hi
            have := (hL0.iff i).1 (mem_ready.1 hi).1
            simp at this
          · exact ih R T' F' _ _ w1 (by simp at hf ⊢; omega) hL.rem hp (fun r hr => ⟨(hR r hr).1, fun u hu => (hR r hr).2 u (by simp [hu])⟩) hIP t4 (fun hl1 t ht => hlf hl1 t (by cases T' with | nil => cases ht | cons x y => simpa using ht)) hs' he' hF1 (hp' v _ hK1)

def putD (dA : Option Nat) : Option Nat → Act → Act
  | none, a => a
  | some b, a => a.put dA (.pointer (some ⟨b, 0, none⟩))
def FD (te : TypeId) (zs : Array Value) : Option Nat → (World → Prop) → World → Prop
  | none, F => F
  | some b, F => fun w => F w ∧ Blk w b te zs
theorem FD.stable {te : TypeId} {zs : Array Value} {D : Option Nat} {F : World → Prop} (h : Stable F) : Stable (FD te zs D F) := by
  cases D with
  | none => exact h
  | some b => exact h.and (Stable.blk b te zs)
theorem FD.one {te : TypeId} {zs : Array Value} {D : Option Nat} {F : World → Prop} {w : World} (h : FD te zs D F w) : F w := by
  cases D with
  | none => exact h
  | some b => exact h.1

theorem BW.putD {val : Nat → Value} {K : Act → Prop} {dA : Option Nat} {D : Option Nat} : ∀ (R : List Nat) (a : Act),
    (∀ r ∈ R, ∀ a : Act, execOp (putD dA D a).eval (opAt ops r) = execOp a.eval (opAt ops r) ∧ Region.wanted (opAt ops r) (yielded ops (putD dA D a).tmps) = Region.wanted (opAt ops r) (yielded ops a.tmps) ∧ ∀ v, (putD dA D a).put (opAt ops r).dst v = putD dA D (a.put (opAt ops r).dst v)) →
    BW P ops S val R a K → BW P ops S val R (Proofs.YtfniicgoeljmdaaGreat.putD dA D a) (fun a' => ∃ a0, a' = Proofs.YtfniicgoeljmdaaGreat.putD dA D a0 ∧ K a0)
  | [], a, _, h => ⟨a, rfl, h⟩
  | r :: R, a, hd, h => by
    obtain ⟨h1, h2, h3⟩ := hd r (by simp) a
    refine ⟨h.1.of_same h1 h2, ?_⟩
    rw [h3]
    exact BW.putD R _ (fun x hx => hd x (by simp [hx])) h.2

theorem wpAny_A (hns : Region.noSelect ops = true) (hon : ∀ i, i < ops.size → onlyOn ops i (fun r => decide (r < ops.size)) = true) {lf : Bool} {fin al Tl X : List Nat} {n0 g : Nat} {dA : Option Nat} {te : TypeId} {zs : Array Value} {K : Act → (World → Prop) → Prop}
    (hal : al = [] ∨ ∃ j, al = [j] ∧ (opAt ops j).dst = dA ∧ (opAt ops j).guard = none ∧ (∀ (a : Act) w, (execOp a.eval (opAt ops j)).run P w = .ok (.value (.pointer (some ⟨w.heap.size, 0, none⟩))) (w.alloc (.cells zs te))) ∧ (∀ w, S w → n0 ≤ w.heap.size ∧ g < w.heap.size) ∧
      (∀ r ∈ X, (opAt ops r).apart ops (opAt ops j) = true) ∧ ∀ r ∈ X ++ (j :: Tl), deps ops j r = false)
    (hK : ∀ a F D, (al = [] ∧ D = none ∨ (∃ j b, al = [j] ∧ D = some b ∧ n0 ≤ b ∧ b ≠ g)) → K a F → TL P S Q lf (Tl.map (opAt ops)) (putD dA D a) (FD te zs D F))
    (htl : tlOk ops X Tl = true) (hlf : lf = true → ∀ t, Tl.getLast? = some t → ∀ r ∈ X, deps ops t r = true) (hbl : al = [] ∨ blkd ops al Tl = true) : ∀ (fuel : Nat) (val : Nat → Value) (R IP : List Nat) (st : List (List Nat × Nat)) (al' : List Nat) (D : Option Nat) (F : World → Prop) (listed : Array Bool) (a : Act) (w : World),
    fuel = (R ++ (restC fin st ++ (al' ++ Tl))).length → Listed ops listed (R ++ (restC fin st ++ (al' ++ Tl))) → IP.Pairwise (Rel ops) → R.Sublist IP → (∀ r ∈ R, deps ops r r = false ∧ ∀ u ∈ restC fin st ++ (al ++ Tl), deps ops r u = false) →
    (∀ r ∈ R, r ∈ X) → (∀ r ∈ restC fin st, r ∈ X) → stOk ops fin al Tl IP st = true → (al' = al ∧ D = none ∨ (∃ j b, al = [j] ∧ al' = [] ∧ D = some b ∧ n0 ≤ b ∧ b ≠ g)) →
    Stable F → (∀ w, F w → S w) → FD te zs D F w → BW P ops S val R a (fun a' => XE P ops S (!al.isEmpty) n0 g fin K st a' F) → wpAny P .any ops Q fuel listed (putD dA D a) w := by
  have hsel' : ∀ (i : Nat) (o : Oper) (cs : Array SelectCase) (b : Bool), ops[i]? = some o → o.op ≠ .select cs b := fun i o cs b hi => Region.noSelect_spec hns i o cs b hi
  have hsel : ∀ i cs b, (opAt ops i).op ≠ .select cs b := fun i cs b => by
    unfold opAt
    rw [Array.getD_eq_getD_getElem?]
    cases hi : ops[i]? with
    | none => simp [default, instInhabitedOper.default, instInhabitedOp.default]
    | some o => exact hsel' i o cs b hi
  -- the allocation's put is apart from all of X
  have hDX : ∀ D, (D = none ∨ ∃ j b, al = [j] ∧ D = some b) → ∀ r ∈ X, ∀ a : Act, execOp (putD dA D a).eval (opAt ops r) = execOp a.eval (opAt ops r) ∧ Region.wanted (opAt ops r) (yielded ops (putD dA D a).tmps) = Region.wanted (opAt ops r) (yielded ops a.tmps) ∧ ∀ v, (putD dA D a).put (opAt ops r).dst v = putD dA D (a.put (opAt ops r).dst v) := by
    intro D hD r hr a
    rcases hD with rfl | ⟨j, b, hj, rfl⟩
    · exact ⟨rfl, rfl, fun _ => rfl⟩
    · rcases hal with h | ⟨j', h, hdst, _, _, _, hap, _⟩
      · rw [h] at hj; cases hj
      · obtain ⟨h1, h2, h3⟩ := Oper.apart_spec (hap r hr)
        rw [hdst] at h2 h3
        exact ⟨execOp_put _ (hsel r) a _ _ h3, wanted_put _ a _ _ h3, fun v => by simp only [putD]; exact (Act.put_comm a _ _ h2).symm⟩
  intro fuel
  induction fuel with
  | zero =>
    intro val R IP st al' D F listed a w hf hL hIP hRI hR hRX hSX hst hD hFs hFS hF h
    simp only [List.length_append] at hf
    obtain rfl : R = [] := List.eq_nil_of_length_eq_zero (by omega)
    obtain rfl : Tl = [] := List.eq_nil_of_length_eq_zero (by omega)
    obtain rfl : al' = [] := List.eq_nil_of_length_eq_zero (by omega)
    obtain rfl : st = [] := by
      cases st with
      | nil => rfl
      | cons x _ => obtain ⟨B, e⟩ := x; simp [restC] at hf
    refine ⟨?_, ?_⟩
    · rw [List.eq_nil_iff_forall_not_mem]
      intro j hj
      have := (hL.iff j).1 (mem_ready.1 hj).1
      simp [restC] at this
    · have := hK _ _ D (by
        rcases hD with ⟨h1, h2⟩ | ⟨j, b, h1, _, h2, h3, h4⟩
        · exact .inl ⟨h1.symm, h2⟩
        · exact .inr ⟨j, b, h1, h2, h3, h4⟩) h
      exact this w hF
  | succ fuel ih =>
    intro val R IP st al' D F listed a w hf hL hIP hRI hR hRX hSX hst hD hFs hFS hF h
    have hp : R.Pairwise (Rel ops) := hIP.sublist hRI
    have hDx := hDX D (by
      rcases hD with ⟨_, h2⟩ | ⟨j, b, h1, _, h2, _⟩
      · exact .inl h2
      · exact .inr ⟨j, b, h1, h2⟩)
    have hal' : ∀ u, u ∈ al' → u ∈ al := by
      rcases hD with ⟨h1, _⟩ | ⟨j, b, _, h1, _⟩
      · rw [h1]; exact fun u h => h
      · rw [h1]; exact fun u h => by cases h
    by_cases hB : st = [] ∧ al' = []
    · obtain ⟨rfl, rfl⟩ := hB
      simp only [restC, List.nil_append] at hf hL
      refine wpAny_B hns hon (val := val) (IP := X) _ R Tl (FD te zs D F) listed _ w (by simpa using hf) hL hp (fun r hr => ⟨(hR r hr).1, fun u hu => (hR r hr).2 u (by simp [hu])⟩) hRX htl hlf (FD.stable hFs) (fun w h => hFS w h.one) hF ?_
      refine BW.mono (fun a' ⟨a0, e, hk⟩ => ?_) _ _ (BW.putD R a (fun r hr => hDx r (hRX r hr)) h)
      subst e
      exact hK _ _ D (by
        rcases hD with ⟨h1, h2⟩ | ⟨j, b, h1, _, h2, h3, h4⟩
        · exact .inl ⟨h1.symm, h2⟩
        · exact .inr ⟨j, b, h1, h2, h3, h4⟩) hk
    refine ⟨fun h0 => ?_, fun j hj => ?_⟩
    · exfalso
      have rdy : ∀ i, i ∈ R ++ (restC fin st ++ (al' ++ Tl)) → (∀ u ∈ R ++ (restC fin st ++ (al' ++ Tl)), deps ops i u = false) → False := fun i hi hd => by
        have := hL.ready hon hi hd
        rw [h0] at this; cases this
      match R, hf with
      | r :: R', _ =>
        refine rdy r (by simp) fun u hu => ?_
        obtain ⟨h1, h2⟩ := hR r (by simp)
        rcases List.mem_append.1 hu with hu | hu
        · rcases List.mem_cons.1 hu with rfl | hu
          · exact h1
          · exact ((List.pairwise_cons.1 hp).1 u hu).2
        · refine h2 u ?_
          simp only [List.mem_append] at hu ⊢
          rcases hu with hu | hu | hu
          · exact .inl hu
          · exact .inr (.inl (hal' u hu))
          · exact .inr (.inr hu)
      | [], _ =>
        match st, hst with
        | (B, e) :: st', hst =>
          simp only [stOk, Bool.and_eq_true] at hst
          refine rdy e (by simp [restC]) fun u hu => nd_spec hst.1.1.1.2 u ?_
          simp only [restC, List.nil_append, List.cons_append, List.mem_cons, List.mem_append] at hu ⊢
          rcases hu with hu | (hu | hu) | hu | hu
          · exact .inl hu
          · exact .inr (.inl (.inl hu))
          · exact .inr (.inl (.inr hu))
          · exact .inr (.inr (.inl (hal' u hu)))
          · exact .inr (.inr (.inr hu))
        | [], _ =>
          rcases hD with ⟨h1, h2⟩ | ⟨j, b, _, h1, _⟩
          · subst h1
            rcases hal with h | ⟨j, h, _, _, _, _, _, hnd⟩
            · exact hB ⟨rfl, h⟩
            · subst h
              exact rdy j (by simp) fun u hu => hnd u (by simp [restC] at hu ⊢; rcases hu with h | h <;> simp [h])
          · exact hB ⟨rfl, h1⟩
    · have hjU := (hL.iff j).1 (mem_ready.1 hj).1
      obtain ⟨hj0, o, ho, hdep⟩ := mem_ready.1 hj
      have hoj := opAt_of ho
      rcases List.mem_append.1 hjU with hjR | hjU
      · -- one of the values
        obtain ⟨R1, R2, rfl⟩ := List.append_of_mem hjR
        have hap : ∀ r ∈ R1, (opAt ops r).apart ops (opAt ops j) = true := by
          intro r hr
          rcases ((List.pairwise_append.1 hp).2.2 r hr j (by simp)).1 with hd | h1
          · exact (hL.notdep hj (by simp [hr]) hd).elim
          · exact h1
        obtain ⟨hyj, hrest⟩ := BW.remove hsel R1 a hap h
        obtain ⟨d1, d2, d3⟩ := hDx j (hRX j (by simp)) a
        have hyj := hyj.of_same d1 d2
        rw [hoj] at hyj hrest d3
        have hL' : Listed ops (listed.setIfInBounds j true) ((R1 ++ R2) ++ (restC fin st ++ (al' ++ Tl))) := by
          rw [List.append_assoc, List.cons_append] at hL
          rw [List.append_assoc]
          exact hL.rem
        have fin' : ∀ w', FD te zs D F w' → wpAny P .any ops Q fuel (listed.setIfInBounds j true) ((putD dA D a).put o.dst (val j)) w' := by
          intro w' hw'
          rw [d3]
          exact ih val (R1 ++ R2) IP st al' D F _ _ w' (by simp at hf ⊢; omega) hL' hIP (List.Sublist.trans (List.Sublist.append (List.Sublist.refl _) (List.sublist_cons_self _ _)) hRI) (fun r hr => hR r (by simp at hr ⊢; rcases hr with h1 | h1 <;> simp [h1])) (fun r hr => hRX r (by simp at hr ⊢; rcases hr with h1 | h1 <;> simp [h1])) hSX hst hD hFs hFS hw' hrest
        unfold wpOp
        simp only [ho]
        rcases hyj with ⟨hwd, hv⟩ | ⟨hwd, hu⟩
        · simp only [hwd, if_true]
          refine .inl ?_
          have hg := hv w (hFS _ hF.one)
          exact hg.upon fun w' hw' => fin' w' (FD.stable hFs _ _ hF hw')
        · simp only [hwd, Bool.false_eq_true, if_false]
          rw [hu] at fin'
          exact fin' w hF
      · match st, hst, hSX, hjU, h with
        | (B, e) :: st', hst, hSX, hjU, h =>
          simp only [stOk, Bool.and_eq_true] at hst
          obtain ⟨⟨⟨⟨s1, s2⟩, s3⟩, s4⟩, s5⟩ := hst
          by_cases hje : j = e
          · subst hje
            have hRIP : ∀ r ∈ R, r ∈ IP := fun r hr => hRI.subset hr
            have hap : ∀ r ∈ R, (opAt ops r).apart ops o = true := by
              intro r hr
              rcases apd_spec s1 r (hRIP r hr) with hd | h1
              · exact (hL.notdep hj (by simp [hr]) hd).elim
              · rw [hoj] at h1; exact h1
            obtain ⟨a1, hK1, he, hp'⟩ := BW.push' hsel (fun cs b => hsel' j o cs b ho) R a hap h
            obtain ⟨hg, hrun⟩ := hK1
            rw [hoj] at hg hrun
            obtain ⟨d1, d2, d3⟩ := hDx j (hSX j (by simp [restC])) a
            rw [hoj] at d1 d2 d3
            have hwd : Region.wanted o (yielded ops (putD dA D a).tmps) = true := by simp [Region.wanted, hg]
            unfold wpOp
            simp only [ho, hwd, if_true]
            refine .inl ?_
            unfold Oper.wp
            rw [d1, ← he]
            refine (hrun w hF.one).upon fun v w1 ⟨hfr, F', hs', he', hF1, hK2⟩ => ?_
            obtain ⟨q1, q2⟩ := pureSeq_spec (pures fin st') IP _ s3 hIP
            have hnP : (pures fin st').Nodup := by
              have := hL.nodup
              simp only [restC, List.nodup_append, List.cons_append, List.nodup_cons] at this
              exact this.2.1.2.1.1
            obtain ⟨val', hv'⟩ := BL.bwR (pures fin st') _ hnP (XG.split hK2)
            have hdis : ∀ r ∈ R, r ∉ pures fin st' := fun r hr hr2 => by
              have := hL.nodup
              rw [List.nodup_append] at this
              exact this.2.2 r hr r (by simp [restC, hr2]) rfl
            have hBW := BW.append R (pures fin st') _ hdis (hp' v _ hv')
            rw [d3]
            refine ih _ (R ++ pures fin st') (IP ++ pures fin st') st' al' D F' _ _ w1 ?_ ?_ q1 (hRI.append (List.Sublist.refl _)) ?_ ?_ (fun r hr => hSX r (by simp [restC, hr])) s5 hD hs' he' ?_ hBW
            · simp [restC] at hf ⊢; omega
            · have := hL
              simp only [restC, List.cons_append] at this
              have := this.rem
              simpa [List.append_assoc] using this
            · intro r hr
              rcases List.mem_append.1 hr with hr | hr
              · exact ⟨(hR r hr).1, fun u hu => (hR r hr).2 u (by simp [restC] at hu ⊢; rcases hu with h | h | h <;> simp [h])⟩
              · exact q2 r hr
            · intro r hr
              rcases List.mem_append.1 hr with hr | hr
              · exact hRX r hr
              · exact hSX r (by simp [restC, hr])
            · cases D with
              | none => exact hF1
              | some b =>
                obtain ⟨hF0, hb⟩ := hF
                rcases hD with ⟨_, h2⟩ | ⟨j', b', h1, _, h2, h3, h4⟩
                · cases h2
                · cases h2
                  exact ⟨hF1, (hfr (by simp [h1])).2 b h3 h4 _ _ hb⟩
          · by_cases hja : j ∈ al'
            · -- the allocation
              rcases hD with ⟨h1, h2⟩ | ⟨j', b, _, h1, _⟩
              · subst h1 h2
                rcases hal with h3 | ⟨j', h3, hdst, hg, hrun, hS, hapX, hnd⟩
                · rw [h3] at hja; cases hja
                · subst h3
                  simp only [List.mem_cons, List.not_mem_nil, or_false] at hja
                  subst hja
                  rw [hoj] at hg hrun hdst
                  have hwd : Region.wanted o (yielded ops (putD dA none a).tmps) = true := by simp [Region.wanted, hg]
                  unfold wpOp
                  simp only [ho, hwd, if_true]
                  refine .inl ?_
                  unfold Oper.wp
                  rw [hrun]
                  obtain ⟨n1, n2⟩ := hS w (hFS _ hF)
                  simp only [Oper.upon, hdst]
                  refine ih val R IP ((B, e) :: st') [] (some w.heap.size) F _ a _ ?_ ?_ hIP hRI hR hRX hSX ?_ (.inr ⟨j, _, rfl, rfl, rfl, n1, by omega⟩) hFs hFS ⟨hFs _ _ hF (Ext.alloc0 _ _), Blk.new w te zs⟩ h
                  · simp at hf ⊢; omega
                  · have := hL
                    rw [← List.append_assoc] at this
                    simp only [List.cons_append, List.nil_append] at this
                    have := this.rem
                    simpa [List.append_assoc] using this
                  · simp only [stOk, Bool.and_eq_true]
                    exact ⟨⟨⟨⟨s1, s2⟩, s3⟩, s4⟩, s5⟩
              · rw [h1] at hja; cases hja
            · exfalso
              have hj' : j ∈ pures fin st' ++ restC fin st' ++ Tl := by
                simp only [restC, List.cons_append, List.mem_cons, List.mem_append] at hjU ⊢
                rcases hjU with h | (h | h) | h | h
                · exact absurd h hje
                · exact .inl (.inl h)
                · exact .inl (.inr h)
                · exact absurd h hja
                · exact .inr h
              obtain ⟨u, hu, hd⟩ := blkd_spec _ [e] s4 j hj'
              refine hL.notdep hj ?_ hd
              simp only [restC, List.cons_append, List.mem_cons, List.mem_append, List.not_mem_nil, or_false] at hu ⊢
              rcases hu with h | (h | h) | h
              · exact .inr (.inl h)
              · exact .inr (.inr (.inl (.inl h)))
              · exact .inr (.inr (.inl (.inr h)))
              · exact .inr (.inr (.inr (.inr h)))
        | [], hst, hSX, hjU, h =>
          simp only [restC, List.nil_append] at hjU hL hf
          rcases hD with ⟨h1, h2⟩ | ⟨j', b, _, h1, _⟩
          · subst h1 h2
            rcases hal with h3 | ⟨j', h3, hdst, hg, hrun, hS, hapX, hnd⟩
            · exact absurd ⟨rfl, h3⟩ hB
            · subst h3
              by_cases hja : j = j'
              · subst hja
                rw [hoj] at hg hrun hdst
                have hwd : Region.wanted o (yielded ops (putD dA none a).tmps) = true := by simp [Region.wanted, hg]
                unfold wpOp
                simp only [ho, hwd, if_true]
                refine .inl ?_
                unfold Oper.wp
                rw [hrun]
                obtain ⟨n1, n2⟩ := hS w (hFS _ hF)
                simp only [Oper.upon, hdst]
                refine ih val R IP [] [] (some w.heap.size) F _ a _ ?_ ?_ hIP hRI hR hRX hSX rfl (.inr ⟨j, _, rfl, rfl, rfl, n1, by omega⟩) hFs hFS ⟨hFs _ _ hF (Ext.alloc0 _ _), Blk.new w te zs⟩ h
                · simp [restC] at hf ⊢; omega
                · have := hL
                  simp only [List.cons_append, List.nil_append] at this
                  have := this.rem
                  simpa [restC] using this
              · exfalso
                have hj' : j ∈ Tl := by simpa [hja] using hjU
                rcases hbl with hb | hb
                · cases hb
                · obtain ⟨u, hu, hd⟩ := blkd_spec Tl [j'] hb j hj'
                  refine hL.notdep hj ?_ hd
                  simp only [List.mem_append, List.mem_cons, List.not_mem_nil, or_false] at hu ⊢
                  exact .inr hu
          · exact absurd ⟨rfl, h1⟩ hB

def pick1 (l : List Oper) (i : Nat) : Oper := match l.drop i with | o :: _ => o | [] => default
theorem pick1_eq (l : List Oper) (i : Nat) : pick1 l i = opAt l.toArray i := by
  unfold opAt pick1
  rw [Array.getD_eq_getD_getElem?, List.getElem?_toArray, ← List.head?_drop]
  cases l.drop i <;> rfl
def XO (P : Program) (l : List Oper) (S : World → Prop) (al : Bool) (n0 g : Nat) (fin : List Nat) (K : Act → (World → Prop) → Prop) : List (List Nat × Nat) → Act → (World → Prop) → Prop
  | [], a, F => BL P l.toArray S (pick l fin) a fun a' => K a' F
  | (Bd, e) :: st, a, F => BL P l.toArray S (pick l Bd) a fun a' => EffC P S al n0 g (pick1 l e) a' F fun a'' F' => XO P l S al n0 g fin K st a'' F'
theorem XO.xg {l : List Oper} {al : Bool} {n0 g : Nat} {fin : List Nat} {K : Act → (World → Prop) → Prop} : ∀ {st : List (List Nat × Nat)} {a : Act} {F : World → Prop}, XO P l S al n0 g fin K st a F → XG P l.toArray S al n0 g fin K st a F
  | [], _, _, h => by simpa [XO, XG, pick_eq] using h
  | (Bd, e) :: st, a, F, h => by
    simp only [XO, XG, pick_eq, pick1_eq] at h ⊢
    have mono : ∀ (L : List Oper) (a : Act) (K1 K2 : Act → Prop), (∀ a, K1 a → K2 a) → BL P l.toArray S L a K1 → BL P l.toArray S L a K2 := by
      intro L
      induction L with
      | nil => intro a K1 K2 hk h; exact hk _ h
      | cons o r ih => intro a K1 K2 hk h; obtain ⟨v, h1, h2⟩ := h; exact ⟨v, h1, ih _ _ _ hk h2⟩
    refine mono _ _ _ _ (fun a1 h1 => ⟨h1.1, fun w hw => ?_⟩) h
    have h2 := h1.2 w hw
    revert h2
    cases (execOp a1.eval (opAt l.toArray e)).run P w with
    | halt x w' => exact id
    | ok n w' =>
      cases n <;> simp only [RunsTo]
      case value u => exact fun ⟨h3, F', h4, h5, h6, h7⟩ => ⟨h3, F', h4, h5, h6, XO.xg h7⟩
      case skip => exact fun ⟨h3, F', h4, h5, h6, h7⟩ => ⟨h3, F', h4, h5, h6, XO.xg h7⟩
      case enter f args => exact fun h => h.mono fun e w'' ⟨v, h8, h3, F', h4, h5, h6, h7⟩ => ⟨v, h8, h3, F', h4, h5, h6, XO.xg h7⟩
      all_goals exact id

def dstOf (l : List Oper) : List Nat → Option Nat
  | [] => none
  | j :: _ => (pick1 l j).dst
theorem wp_region_chain {id : Nat} {l : List Oper} (lf : Bool) (st : List (List Nat × Nat)) (fin al Tl : List Nat) (S F : World → Prop) (n0 g : Nat) (te : TypeId) (zs : Array Value) {a : Act} {w : World} (hFs : Stable F) (hFS : ∀ w, F w → S w) (hF : F w.drew)
    (hm : P.follows .mixedOrders = true) (hok : chainOk l.toArray lf st fin al Tl = true)
    (hal : al = [] ∨ ∃ j, al = [j] ∧ (pick1 l j).guard = none ∧ (∀ (a : Act) w, (execOp a.eval (pick1 l j)).run P w = .ok (.value (.pointer (some ⟨w.heap.size, 0, none⟩))) (w.alloc (.cells zs te))) ∧ (∀ w, S w → n0 ≤ w.heap.size ∧ g < w.heap.size))
    (h : XO P l S (!al.isEmpty) n0 g fin (fun a' F' => (al = [] → TL P S Q lf (pick l Tl) a' F') ∧ ∀ j b, al = [j] → n0 ≤ b → b ≠ g → TL P S Q lf (pick l Tl) (a'.put (pick1 l j).dst (.pointer (some ⟨b, 0, none⟩))) (fun w => F' w ∧ Blk w b te zs)) st a F) :
    (Code.region id l.toArray true).wp P Q a w := by
  simp only [chainOk, Bool.and_eq_true, decide_eq_true_eq] at hok
  obtain ⟨⟨⟨⟨⟨⟨⟨⟨⟨⟨hns, hon⟩, ⟨hnd, hlt⟩, hcov⟩, hps⟩, hst⟩, htl⟩, hbl⟩, haln⟩, hap⟩, hl1⟩, hlfc⟩ := hok
  have hn := List.nodup_append.1 hnd
  obtain ⟨q1, q2⟩ := pureSeq_spec _ _ _ hps List.Pairwise.nil
  simp only [List.nil_append] at q1
  obtain ⟨val, hv⟩ := BL.bwR (pures fin st) a hn.1 (XG.split (XO.xg h))
  refine wp_region_any hm ?_
  refine wpAny_A (lf := lf) (dA := dstOf l al) (te := te) (zs := zs) (n0 := n0) (g := g) (K := (fun a' F' => (al = [] → TL P S Q lf (pick l Tl) a' F') ∧ ∀ j b, al = [j] → n0 ≤ b → b ≠ g → TL P S Q lf (pick l Tl) (a'.put (pick1 l j).dst (.pointer (some ⟨b, 0, none⟩))) (fun w => F' w ∧ Blk w b te zs))) (X := pures fin st ++ restC fin st) (al := al) (Tl := Tl) (S := S) hns (fun i hi => (List.all_eq_true.1 hon) i (List.mem_range.2 hi)) ?_ ?_ htl (fun h1 t ht r hr => by subst h1; rw [ht] at hlfc; exact (List.all_eq_true.1 hlfc) r hr) ?_ _ val (pures fin st) (pures fin st) st al none F _ a _ ?_ ?_ q1 (List.Sublist.refl _) q2 (fun r hr => by simp [hr]) (fun r hr => by simp [hr]) hst (.inl ⟨rfl, rfl⟩) hFs hFS hF hv
  · rcases hal with h | ⟨j, h, hg, hrun, hS⟩
    · exact .inl h
    · subst h
      refine .inr ⟨j, rfl, by rw [dstOf, pick1_eq], by rw [← pick1_eq]; exact hg, fun a w => by rw [← pick1_eq]; exact hrun a w, hS, fun r hr => ?_, fun r hr => ?_⟩
      · have := (List.all_eq_true.1 hap) j (by simp)
        exact (List.all_eq_true.1 this) r hr
      · have := (List.all_eq_true.1 haln) j (by simp)
        exact nd_spec this r (by simpa [List.append_assoc] using hr)
  · intro a' F' D hD ⟨k1, k2⟩
    rw [← pick_eq]
    rcases hD with ⟨h1, rfl⟩ | ⟨j, b, h1, rfl, h3, h4⟩
    · exact k1 h1
    · subst h1
      exact k2 j b rfl h3 h4
  · rcases al with _ | ⟨j, r⟩
    · exact .inl rfl
    · exact .inr (by simpa using hbl)
  · have h1 : (pures fin st ++ (restC fin st ++ (al ++ Tl))).Perm (List.range l.toArray.size) := by
      refine (List.perm_ext_iff_of_nodup hnd List.nodup_range).2 fun i => ?_
      rw [List.mem_range]
      constructor
      · intro hi
        have := (List.all_eq_true.1 hlt) i hi
        exact of_decide_eq_true this
      · intro hi
        have := (List.all_eq_true.1 hcov) i (List.mem_range.2 hi)
        exact List.contains_iff_mem.1 this
    have := h1.length_eq
    rw [List.length_range, List.size_toArray] at this
    simp only [this, List.size_toArray]
  · refine ⟨by simp, fun i => ?_, fun i hi => of_decide_eq_true ((List.all_eq_true.1 hlt) i hi), hnd⟩
    have hm1 : i ∈ pures fin st ++ (restC fin st ++ (al ++ Tl)) ↔ i < l.length := by
      constructor
      · intro hi
        have := of_decide_eq_true ((List.all_eq_true.1 hlt) i hi)
        simpa using this
      · intro hi
        have := (List.all_eq_true.1 hcov) i (List.mem_range.2 (by simpa using hi))
        exact List.contains_iff_mem.1 this
    rw [hm1]
    rcases Nat.lt_or_ge i l.length with hi | hi
    · simp [hi]
    · simp only [Nat.not_lt.2 hi, iff_false]
      rw [Array.getD_eq_getD_getElem?, Array.getElem?_eq_none (by rw [Array.size_replicate, List.size_toArray]; exact hi)]
      simp

theorem EffC.mono {al : Bool} {n0 g : Nat} {o : Oper} {a : Act} {F : World → Prop} {K1 K2 : Act → (World → Prop) → Prop} (hk : ∀ a F, K1 a F → K2 a F) (h : EffC P S al n0 g o a F K1) : EffC P S al n0 g o a F K2 := by
  refine ⟨h.1, fun w hw => ?_⟩
  have h2 := h.2 w hw
  revert h2
  cases (execOp a.eval o).run P w with
  | halt x w' => exact id
  | ok n w' =>
    cases n <;> simp only [RunsTo]
    case value u => exact fun ⟨h3, F', h4, h5, h6, h7⟩ => ⟨h3, F', h4, h5, h6, hk _ _ h7⟩
    case skip => exact fun ⟨h3, F', h4, h5, h6, h7⟩ => ⟨h3, F', h4, h5, h6, hk _ _ h7⟩
    case enter f args => exact fun h => h.mono fun e w'' ⟨v, h8, h3, F', h4, h5, h6, h7⟩ => ⟨v, h8, h3, F', h4, h5, h6, hk _ _ h7⟩
    all_goals exact id
theorem BL.mono {ops : Array Oper} : ∀ (L : List Oper) (a : Act) (K1 K2 : Act → Prop), (∀ a, K1 a → K2 a) → BL P ops S L a K1 → BL P ops S L a K2
  | [], _, _, _, hk, h => hk _ h
  | _ :: r, _, K1, K2, hk, ⟨v, h1, h2⟩ => ⟨v, h1, BL.mono r _ K1 K2 hk h2⟩
theorem XO.mono {l : List Oper} {al : Bool} {n0 g : Nat} {fin : List Nat} {K1 K2 : Act → (World → Prop) → Prop} (hk : ∀ a F, K1 a F → K2 a F) : ∀ (st : List (List Nat × Nat)) (a : Act) (F : World → Prop), XO P l S al n0 g fin K1 st a F → XO P l S al n0 g fin K2 st a F
  | [], a, F, h => BL.mono _ a _ _ (fun a h => hk a F h) h
  | (_, _) :: st, a, _, h => BL.mono _ a _ _ (fun _ h => EffC.mono (fun a F h => XO.mono hk st a F h) h) h
theorem wp_region_chain0 {id : Nat} {l : List Oper} (lf : Bool) (st : List (List Nat × Nat)) (fin Tl : List Nat) (S F : World → Prop) {a : Act} {w : World} (hFs : Stable F) (hFS : ∀ w, F w → S w) (hF : F w.drew)
    (hm : P.follows .mixedOrders = true) (hok : chainOk l.toArray lf st fin [] Tl = true)
    (h : XO P l S false 0 0 fin (fun a' F' => TL P S Q lf (pick l Tl) a' F') st a F) : (Code.region id l.toArray true).wp P Q a w := by
  refine wp_region_chain lf st fin [] Tl S F 0 0 0 #[] hFs hFS hF hm hok (.inl rfl) ?_
  exact XO.mono (fun a F h => ⟨fun _ => h, fun j b hx => by cases hx⟩) _ _ _ h
theorem wp_region_chain1 {id : Nat} {l : List Oper} (lf : Bool) (st : List (List Nat × Nat)) (fin : List Nat) (j : Nat) (Tl : List Nat) (S F : World → Prop) (n0 g : Nat) (te : TypeId) (zs : Array Value) {a : Act} {w : World} (hFs : Stable F) (hFS : ∀ w, F w → S w) (hF : F w.drew)
    (hm : P.follows .mixedOrders = true) (hok : chainOk l.toArray lf st fin [j] Tl = true) (hg : (pick1 l j).guard = none)
    (hrun : ∀ (a : Act) w, (execOp a.eval (pick1 l j)).run P w = .ok (.value (.pointer (some ⟨w.heap.size, 0, none⟩))) (w.alloc (.cells zs te))) (hS : ∀ w, S w → n0 ≤ w.heap.size ∧ g < w.heap.size)
    (h : XO P l S true n0 g fin (fun a' F' => ∀ b, n0 ≤ b → b ≠ g → TL P S Q lf (pick l Tl) (a'.put (pick1 l j).dst (.pointer (some ⟨b, 0, none⟩))) (fun w => F' w ∧ Blk w b te zs)) st a F) : (Code.region id l.toArray true).wp P Q a w := by
  refine wp_region_chain lf st fin [j] Tl S F n0 g te zs hFs hFS hF hm hok (.inr ⟨j, rfl, hg, hrun, hS⟩) ?_
  exact XO.mono (fun a F h => ⟨fun hx => (by cases hx), fun j' b hx h1 h2 => by cases hx; exact h b h1 h2⟩) _ _ _ h

theorem xe_call {o : Oper} {a : Act} {F : World → Prop} {f : FuncId} {args : Array Value} {n0 g : Nat} {K : Act → (World → Prop) → Prop} (G : Value → Prop) (F' : World → Prop) (hg : o.guard = none) (hst : Stable F') (hS : ∀ w, F' w → S w)
    (hrun : ∀ w, F w → (execOp a.eval o).run P w = .ok (.enter f args) w) (hc : ∀ w, F w → Calls P f args w fun e w' => ∃ v, e = .returned v ∧ G v ∧ F' w') (h : ∀ v, G v → K (a.put o.dst v) F') : EffC P S false n0 g o a F K :=
  ⟨hg, fun w hw => by rw [hrun w hw]; exact (hc w hw).mono fun e w' ⟨v, he, hv, hx⟩ => ⟨v, he, by simp, _, hst, hS, hx, h v hv⟩⟩
theorem xe_callA {o : Oper} {a : Act} {F : World → Prop} {f : FuncId} {args : Array Value} {al : Bool} {n0 g : Nat} {K : Act → (World → Prop) → Prop} (G : Value → Prop) (F' : World → Prop) (hg : o.guard = none) (hst : Stable F') (hS : ∀ w, F' w → S w)
    (hrun : ∀ w, F w → (execOp a.eval o).run P w = .ok (.enter f args) w) (hc : ∀ w, F w → Calls P f args w fun e w' => ∃ v, e = .returned v ∧ G v ∧ F' w' ∧ Fr n0 g w w') (h : ∀ v, G v → K (a.put o.dst v) F') : EffC P S al n0 g o a F K :=
  ⟨hg, fun w hw => by rw [hrun w hw]; exact (hc w hw).mono fun e w' ⟨v, he, hv, hx, hf⟩ => ⟨v, he, fun _ => hf, _, hst, hS, hx, h v hv⟩⟩
theorem tl_nil {lf : Bool} {a : Act} {F : World → Prop} (h : ∀ w, F w → Q .normal a w) : TL P S Q lf [] a F := h
theorem tl_last {o : Oper} {a : Act} {F : World → Prop} (hg : o.guard = none) (hd : o.dst = none) (hrun : ∀ w, F w → ∃ w1, (execOp a.eval o).run P w = .ok .skip w1 ∧ Q .normal a w1) : TL P S Q true [o] a F :=
  ⟨hg, fun w hw => by
    obtain ⟨w1, h1, h2⟩ := hrun w hw
    rw [h1]
    exact .inl ⟨rfl, rfl, by rw [hd]; exact h2⟩⟩
theorem tl_val {lf : Bool} {o : Oper} {T : List Oper} {a : Act} {F : World → Prop} {v : Value} (hg : o.guard = none) (hF : Stable F) (hFS : ∀ w, F w → S w) (hrun : ∀ w, F w → (execOp a.eval o).run P w = .ok (.value v) w)
    (h : TL P S Q lf T (a.put o.dst v) F) : TL P S Q lf (o :: T) a F :=
  ⟨hg, fun w hw => by rw [hrun w hw]; exact .inr ⟨F, hF, hFS, hw, h⟩⟩
theorem tl_skip {lf : Bool} {o : Oper} {T : List Oper} {a : Act} {F : World → Prop} (F' : World → Prop) (hg : o.guard = none) (hd : o.dst = none) (hF : Stable F') (hFS : ∀ w, F' w → S w)
    (hrun : ∀ w, F w → ∃ w1, (execOp a.eval o).run P w = .ok .skip w1 ∧ F' w1) (h : TL P S Q lf T a F') : TL P S Q lf (o :: T) a F :=
  ⟨hg, fun w hw => by
    obtain ⟨w1, h1, h2⟩ := hrun w hw
    rw [h1]
    exact .inr ⟨F', hF, hFS, h2, by rw [hd]; exact h⟩⟩
theorem tl_slice {lf : Bool} {o : Oper} {T : List Oper} {a : Act} {F : World → Prop} {e : TypeId} {zs : Array Value} (hg : o.guard = none) (hst : Stable F) (hS : ∀ w, F w → S w)
    (hrun : ∀ w, (execOp a.eval o).run P w = .ok (.value (.slice (some ⟨w.heap.size, 0, none⟩) 1 1)) (w.alloc (.cells zs e)))
    (h : ∀ b, TL P S Q lf T (a.put o.dst (.slice (some ⟨b, 0, none⟩) 1 1)) fun w => F w ∧ Blk w b e zs) : TL P S Q lf (o :: T) a F :=
  ⟨hg, fun w hw => by rw [hrun w]; exact .inr ⟨_, hst.and (Stable.blk w.heap.size e zs), fun w h => hS w h.1, ⟨hst _ _ hw (Ext.alloc0 _ _), Blk.new w e zs⟩, h _⟩⟩
theorem tl_any {lf : Bool} {o : Oper} {T : List Oper} {a : Act} {F : World → Prop} (hg : o.guard = none)
    (hrun : ∀ w, F w → ∃ v w1, (execOp a.eval o).run P w = .ok (.value v) w1 ∧ ∃ F' : World → Prop, Stable F' ∧ (∀ w, F' w → S w) ∧ F' w1 ∧ TL P S Q lf T (a.put o.dst v) F') : TL P S Q lf (o :: T) a F :=
  ⟨hg, fun w hw => by
    obtain ⟨v, w1, h1, h2⟩ := hrun w hw
    rw [h1]
    exact .inr h2⟩
end
end Go.Proofs.YtfniicgoeljmdaaGreat

namespace Go.Proofs.YtfniicgoeljmdaaGreat
open Go.RowKit

section
variable {P : Program} {ops : Array Oper} {Q : Exit → Act → World → Prop} {S : World → Prop}

def AD (P : Program) (ops : Array Oper) (S : World → Prop) (Q : Exit → Act → World → Prop) (T : List Oper) : Nat → List Nat → Act → (World → Prop) → Prop
  | 0, _, a, F => TG P S Q T a F
  | k + 1, L, a, F => ∀ j ∈ L, (∀ r ∈ L, deps ops j r = false) → Eff P S (opAt ops j) a F fun a' F' => AD P ops S Q T k (L.erase j) a' F'

def tailsD (ops : Array Oper) (Bd Al : List Nat) : List Nat → List Nat → Bool
  | _, [] => true
  | pre, j :: T => onlyOn ops j (fun r => Bd.contains r || Al.contains r || pre.contains r) && (Bd.all fun r => deps ops j r || (opAt ops r).apart ops (opAt ops j)) &&
      (match pre with | [] => Al.all (fun r => deps ops j r || Al.any fun q => decide (r < q) && deps ops q r) | q :: _ => deps ops j q) && tailsD ops Bd Al (j :: pre) T

def genD (ops : Array Oper) (Bd Al Tl : List Nat) : Bool :=
  Region.noSelect ops && (decide ((Bd ++ Al ++ Tl).length = ops.size) && (List.range ops.size).all fun i => (Bd ++ Al ++ Tl).contains i) && (decide (Bd ++ Al ++ Tl).Nodup && (Bd ++ Al ++ Tl).all fun i => decide (i < ops.size)) && decide (Bd.Pairwise (· < ·)) &&
  (Bd.all fun j => onlyOn ops j (fun r => Bd.contains r && decide (r < j)) && (Bd.all fun r => !decide (r < j) || deps ops j r || (opAt ops r).apart ops (opAt ops j))) &&
  decide (Al.Pairwise (· < ·)) && (Al.all fun j => onlyOn ops j (fun r => Bd.contains r || (Al.contains r && decide (r < j))) && (Bd.all fun r => deps ops j r || (opAt ops r).apart ops (opAt ops j))) && tailsD ops Bd Al [] Tl

theorem tailsD_spec {Bd Al : List Nat} : ∀ (Tl pre : List Nat), tailsD ops Bd Al pre Tl = true → ∀ (T1 : List Nat) (j : Nat) (T2 : List Nat), Tl = T1 ++ j :: T2 →
    onlyOn ops j (fun r => Bd.contains r || Al.contains r || (T1.reverse ++ pre).contains r) = true ∧ (∀ r ∈ Bd, deps ops j r = true ∨ (opAt ops r).apart ops (opAt ops j) = true) ∧
    (match T1.reverse ++ pre with | [] => ∀ r ∈ Al, deps ops j r = true ∨ ∃ q ∈ Al, r < q ∧ deps ops q r = true | q :: _ => deps ops j q = true)
  | [], _, _, T1, j, T2, e => by simp at e
  | i :: Tl, pre, h, [], j, T2, e => by
    simp only [List.nil_append, List.cons.injEq] at e
    obtain ⟨rfl, rfl⟩ := e
    simp only [tailsD, Bool.and_eq_true, List.all_eq_true, Bool.or_eq_true] at h
    refine ⟨h.1.1.1, h.1.1.2, ?_⟩
    have h2 := h.1.2
    cases pre with
    | nil => intro r hr; have := h2; have h3 := (List.all_eq_true.1 this) r hr; simpa using h3
    | cons q r => simpa using h2
  | i :: Tl, pre, h, k :: T1, j, T2, e => by
    simp only [List.cons_append, List.cons.injEq] at e
    obtain ⟨rfl, rfl⟩ := e
    simp only [tailsD, Bool.and_eq_true] at h
    have := tailsD_spec (T1 ++ j :: T2) (i :: pre) h.2 T1 j T2 rfl
    simpa [List.reverse_cons, List.append_assoc] using this

theorem wpAny_D {val : Nat → Value} {Bd Al Tl : List Nat} (hok : genD ops Bd Al Tl = true) : ∀ (fuel : Nat) (R L T1 T : List Nat) (F : World → Prop) (listed : Array Bool) (a : Act) (w : World),
    fuel = R.length + L.length + T.length → Tl = T1 ++ T → (L ≠ [] → T1 = []) → listed.size = ops.size → (∀ i, listed.getD i true = false ↔ (i ∈ R ∨ i ∈ L ∨ i ∈ T)) →
    (∀ i ∈ R, i ∈ Bd) → R.Pairwise (· < ·) → (∀ i ∈ L, i ∈ Al) → L.Pairwise (· < ·) → (∀ q ∈ Al, ∀ r ∈ L, deps ops q r = true → q ∈ L) → Stable F → (∀ w, F w → S w) → F w →
    BW P ops S val R a (fun a' => AD P ops S Q (T.map (opAt ops)) L.length L a' F) → wpAny P .any ops Q fuel listed a w := by
  simp only [genD, Bool.and_eq_true, decide_eq_true_eq] at hok
  obtain ⟨⟨⟨⟨⟨⟨⟨hns, hlen, hcov⟩, hnd, hbd⟩, hsort⟩, hB⟩, hsA⟩, hA⟩, hT⟩ := hok
  have hsel' : ∀ (i : Nat) (o : Oper) (cs : Array SelectCase) (b : Bool), ops[i]? = some o → o.op ≠ .select cs b := fun i o cs b hi => Region.noSelect_spec hns i o cs b hi
  have hsel : ∀ i cs b, (opAt ops i).op ≠ .select cs b := fun i cs b => by
    unfold opAt
    rw [Array.getD_eq_getD_getElem?]
    cases hi : ops[i]? with
    | none => simp [default, instInhabitedOper.default, instInhabitedOp.default]
    | some o => exact hsel' i o cs b hi
  have hat : ∀ j o, ops[j]? = some o → opAt ops j = o := fun j o h => by simp [opAt, Array.getD_eq_getD_getElem?, h]
  have hlt : ∀ i, (i ∈ Bd ∨ i ∈ Al ∨ i ∈ Tl) → i < ops.size := fun i hi => by
    have := (List.all_eq_true.1 hbd) i (by simpa [or_assoc] using hi)
    simpa using this
  have dBA : ∀ i, i ∈ Bd → i ∈ Al → False := fun i h1 h2 => by
    rw [List.append_assoc, List.nodup_append] at hnd
    exact hnd.2.2 i h1 i (by simp [h2]) rfl
  have dBT : ∀ i, i ∈ Bd → i ∈ Tl → False := fun i h1 h2 => by
    rw [List.append_assoc, List.nodup_append] at hnd
    exact hnd.2.2 i h1 i (by simp [h2]) rfl
  have dAT : ∀ i, i ∈ Al → i ∈ Tl → False := fun i h1 h2 => by
    rw [List.nodup_append] at hnd
    exact hnd.2.2 i (by simp [h1]) i h2 rfl
  have ndT : Tl.Nodup := by rw [List.nodup_append] at hnd; exact hnd.2.1
  have hB' : ∀ j ∈ Bd, (∀ e ∈ (opAt ops j).after, Region.binds .any e = true → e.on ∈ Bd ∧ e.on < j) ∧ ∀ r ∈ Bd, r < j → deps ops j r = true ∨ (opAt ops r).apart ops (opAt ops j) = true := fun j hj => by
    have := (List.all_eq_true.1 hB) j hj
    simp only [Bool.and_eq_true] at this
    refine ⟨fun e he hb => by simpa using onlyOn_spec this.1 e he hb, fun r hr hrj => ?_⟩
    have h2 := (List.all_eq_true.1 this.2) r hr
    simpa [hrj] using h2
  have hA' : ∀ j ∈ Al, (∀ e ∈ (opAt ops j).after, Region.binds .any e = true → e.on ∈ Bd ∨ (e.on ∈ Al ∧ e.on < j)) ∧ ∀ r ∈ Bd, deps ops j r = true ∨ (opAt ops r).apart ops (opAt ops j) = true := fun j hj => by
    have := (List.all_eq_true.1 hA) j hj
    simp only [Bool.and_eq_true] at this
    refine ⟨fun e he hb => by have h := onlyOn_spec this.1 e he hb; simpa using h, fun r hr => ?_⟩
    have h2 := (List.all_eq_true.1 this.2) r hr
    simpa using h2
  intro fuel
  induction fuel with
  | zero =>
    intro R L T1 T F listed a w hf hTl hLT hs hR hRB hp hLA hpL hup hFs hFe hF h
    obtain rfl : R = [] := List.eq_nil_of_length_eq_zero (by omega)
    obtain rfl : L = [] := List.eq_nil_of_length_eq_zero (by omega)
    obtain rfl : T = [] := List.eq_nil_of_length_eq_zero (by omega)
    refine ⟨?_, h w hF⟩
    rw [List.eq_nil_iff_forall_not_mem]
    intro j hj
    have := (hR j).1 (mem_ready.1 hj).1
    simp at this
  | succ fuel ih =>
    intro R L T1 T F listed a w hf hTl hLT hs hR hRB hp hLA hpL hup hFs hFe hF h
    have hTm : ∀ i ∈ T, i ∈ Tl := fun i hi => by rw [hTl]; simp [hi]
    have hndT : T.Nodup := by rw [hTl, List.nodup_append] at ndT; exact ndT.2.1
    have hdT : ∀ i ∈ T1, i ∈ T → False := fun i h1 h2 => by rw [hTl, List.nodup_append] at ndT; exact ndT.2.2 i h1 i h2 rfl
    have hun : ∀ i, (i ∈ R ∨ i ∈ L ∨ i ∈ T) → listed.getD i true = false := fun i hi => (hR i).2 hi
    have hall : ∀ i, (i ∈ R ∨ i ∈ L ∨ i ∈ T) → i < ops.size := fun i hi => hlt i (by
      rcases hi with h1 | h1 | h1
      · exact .inl (hRB i h1)
      · exact .inr (.inl (hLA i h1))
      · exact .inr (.inr (hTm i h1)))
    have hin : ∀ i, i < ops.size → ¬ (i ∈ R ∨ i ∈ L ∨ i ∈ T) → listed.getD i false = true := by
      intro i hi hne
      have h1 : listed.getD i true ≠ false := fun hx => hne ((hR i).1 hx)
      have hi' : i < listed.size := by omega
      simp [hi'] at h1 ⊢
      exact h1
    have hnotdep : ∀ j, j ∈ Region.ready .any ops listed → ∀ r, (r ∈ R ∨ r ∈ L ∨ r ∈ T) → deps ops j r = true → False := fun j hj r hr hd => by
      obtain ⟨hj0, o, ho, hdep⟩ := mem_ready.1 hj
      obtain ⟨e, he, hb, hon⟩ := deps_spec.1 hd
      rw [hat j o ho] at he
      have h1 := hdep e he hb
      have h2 := hun r hr
      rw [hon] at h1
      have : r < listed.size := by have := hall r hr; omega
      simp [this] at h1 h2
      rw [h2] at h1; cases h1
    refine ⟨fun h0 => ?_, fun j hj => ?_⟩
    · exfalso
      have rdy : ∀ i, (i ∈ R ∨ i ∈ L ∨ i ∈ T) → (∀ e ∈ (opAt ops i).after, Region.binds .any e = true → ¬ (e.on ∈ R ∨ e.on ∈ L ∨ e.on ∈ T) ∧ e.on < ops.size) → False := fun i hi hd => by
        have hil := hall i hi
        have : i ∈ Region.ready .any ops listed := mem_ready.2 ⟨hun i hi, opAt ops i, by simp [opAt, Array.getD_eq_getD_getElem?, Array.getElem?_eq_getElem hil], fun e he hb => hin _ (hd e he hb).2 (hd e he hb).1⟩
        rw [h0] at this
        cases this
      match R, L, T, hf with
      | i :: R', L, T, _ =>
        refine rdy i (by simp) fun e he hb => ?_
        obtain ⟨h1, h2⟩ := (hB' i (hRB i (by simp))).1 e he hb
        refine ⟨?_, hlt _ (.inl h1)⟩
        rintro (h3 | h3 | h3)
        · rcases List.mem_cons.1 h3 with h4 | h4
          · omega
          · have := (List.pairwise_cons.1 hp).1 _ h4; omega
        · exact dBA _ h1 (hLA _ h3)
        · exact dBT _ h1 (hTm _ h3)
      | [], i :: L', T, _ =>
        refine rdy i (by simp) fun e he hb => ?_
        rcases (hA' i (hLA i (by simp))).1 e he hb with h1 | ⟨h1, h2⟩
        · refine ⟨?_, hlt _ (.inl h1)⟩
          rintro (h3 | h3 | h3)
          · cases h3
          · exact dBA _ h1 (hLA _ h3)
          · exact dBT _ h1 (hTm _ h3)
        · refine ⟨?_, hlt _ (.inr (.inl h1))⟩
          rintro (h3 | h3 | h3)
          · cases h3
          · rcases List.mem_cons.1 h3 with h4 | h4
            · omega
            · have := (List.pairwise_cons.1 hpL).1 _ h4; omega
          · exact dAT _ h1 (hTm _ h3)
      | [], [], i :: T', _ =>
        obtain ⟨h1, _, _⟩ := tailsD_spec Tl [] hT T1 i T' hTl
        refine rdy i (by simp) fun e he hb => ?_
        have h2 := onlyOn_spec h1 e he hb
        simp only [List.append_nil, Bool.or_eq_true, List.contains_iff_mem, List.mem_reverse] at h2
        refine ⟨?_, hlt _ ?_⟩
        · rintro (h3 | h3 | h3)
          · cases h3
          · cases h3
          · rcases h2 with (h2 | h2) | h2
            · exact dBT _ h2 (hTm _ h3)
            · exact dAT _ h2 (hTm _ h3)
            · exact hdT _ h2 h3
        · rcases h2 with (h2 | h2) | h2
          · exact .inl h2
          · exact .inr (.inl h2)
          · exact .inr (.inr (by rw [hTl]; simp [h2]))
    · have hjm : j ∈ R ∨ j ∈ L ∨ j ∈ T := (hR j).1 (mem_ready.1 hj).1
      obtain ⟨hj0, o, ho, hdep⟩ := mem_ready.1 hj
      have hjl := hall j hjm
      have hoj := hat j o ho
      rcases hjm with hjR | hjL | hjT
      · obtain ⟨R1, R2, rfl⟩ := List.append_of_mem hjR
        have hap : ∀ r ∈ R1, (opAt ops r).apart ops (opAt ops j) = true := by
          intro r hr
          have hrj : r < j := (List.pairwise_append.1 hp).2.2 r hr j (by simp)
          rcases (hB' j (hRB j (by simp))).2 r (hRB r (by simp [hr])) hrj with hd | h1
          · exact (hnotdep j hj r (.inl (by simp [hr])) hd).elim
          · exact h1
        obtain ⟨hyj, hrest⟩ := BW.remove hsel R1 a hap h
        rw [hoj] at hyj hrest
        have fin : ∀ w', F w' → wpAny P .any ops Q fuel (listed.setIfInBounds j true) (a.put o.dst (val j)) w' := by
          intro w' hw'
          refine ih (R1 ++ R2) L T1 T F _ _ w' (by simp at hf ⊢; omega) hTl hLT (by simpa using hs) ?_ (fun i hi => hRB i (by simp at hi ⊢; rcases hi with h1 | h1 <;> simp [h1])) ?_ hLA hpL hup hFs hFe hw' hrest
          · intro i
            by_cases hij : j = i
            · subst hij
              have hn : j ∉ R1 ++ R2 := by
                have h1 := List.pairwise_append.1 hp
                have h2 := List.pairwise_cons.1 h1.2.1
                intro hm
                rcases List.mem_append.1 hm with h3 | h3
                · have := h1.2.2 j h3 j (by simp); omega
                · have := h2.1 j h3; omega
              have hjB := hRB j (by simp)
              have hjs : j < listed.size := by omega
              constructor
              · intro hx; simp [hjs] at hx
              · rintro (h1 | h1 | h1)
                · exact absurd h1 hn
                · exact (dBA j hjB (hLA j h1)).elim
                · exact (dBT j hjB (hTm j h1)).elim
            · rw [getD_set_ne true hij, hR i]
              simp [List.mem_append, List.mem_cons, Ne.symm hij]
          · have h1 := List.pairwise_append.1 hp
            have h2 := List.pairwise_cons.1 h1.2.1
            exact List.pairwise_append.2 ⟨h1.1, h2.2, fun x hx y hy => h1.2.2 x hx y (by simp [hy])⟩
        unfold wpOp
        simp only [ho]
        rcases hyj with ⟨hwd, hv⟩ | ⟨hwd, hu⟩
        · simp only [hwd, if_true]
          refine .inl ?_
          have hg := hv w (hFe _ hF)
          exact hg.upon fun w' hw' => fin w' (hFs _ _ hF hw')
        · simp only [hwd, Bool.false_eq_true, if_false]
          rw [hu] at fin
          exact fin w hF
      · -- an allocation
        have hap : ∀ r ∈ R, (opAt ops r).apart ops o = true := by
          intro r hr
          rcases (hA' j (hLA j hjL)).2 r (hRB r hr) with hd | h1
          · exact (hnotdep j hj r (.inl hr) hd).elim
          · rw [hoj] at h1; exact h1
        obtain ⟨a1, hK, he, hp'⟩ := BW.push' hsel (fun cs b => hsel' j o cs b ho) R a hap h
        obtain ⟨k, hk⟩ : ∃ k, L.length = k + 1 := ⟨L.length - 1, by have := List.length_pos_of_mem hjL; omega⟩
        rw [hk] at hK
        obtain ⟨hg, hrun⟩ := hK j hjL fun r hr => by
          cases hd : deps ops j r
          · rfl
          · exact (hnotdep j hj r (.inr (.inl hr)) hd).elim
        rw [hoj] at hg hrun
        have hwd : Region.wanted o (yielded ops a.tmps) = true := by simp [Region.wanted, hg]
        unfold wpOp
        simp only [ho, hwd, if_true]
        refine .inl ?_
        unfold Oper.wp
        rw [← he]
        refine (hrun w hF).upon fun v w1 ⟨F', hs', he', hF1, hK1⟩ => ?_
        have hnL : L.Nodup := hpL.imp fun h => by omega
        have hle : (L.erase j).length = k := by rw [List.length_erase_of_mem hjL]; omega
        refine ih R (L.erase j) T1 T F' _ _ w1 (by omega) hTl (fun hne => hLT (fun e => by rw [e] at hjL; cases hjL)) (by simpa using hs) ?_ hRB hp (fun i hi => hLA i (List.mem_of_mem_erase hi)) (hpL.sublist (List.erase_sublist)) (fun q hq r hr hd => ?_) hs' he' hF1 (hp' v _ (by rw [hle]; exact hK1))
        · intro i
          by_cases hij : j = i
          · subst hij
            have hjs : j < listed.size := by omega
            constructor
            · intro hx; simp [hjs] at hx
            · rintro (h1 | h1 | h1)
              · exact (dBA j (hRB j h1) (hLA j hjL)).elim
              · exact absurd h1 (List.Nodup.not_mem_erase hnL)
              · exact (dAT j (hLA j hjL) (hTm j h1)).elim
          · rw [getD_set_ne true hij, hR i, hnL.mem_erase_iff]
            simp [Ne.symm hij]
        · have h1 := hup q hq r (List.mem_of_mem_erase hr) hd
          refine (hnL.mem_erase_iff).2 ⟨fun e => ?_, h1⟩
          subst e
          exact hnotdep q hj r (.inr (.inl (List.mem_of_mem_erase hr))) hd
      · -- the first of the tail
        match T, hjT with
        | i :: T', hjT =>
          have hjm' : j = i := by
            rcases List.mem_cons.1 hjT with h1 | h1
            · exact h1
            · exfalso
              obtain ⟨X, Y, rfl⟩ := List.append_of_mem h1
              obtain ⟨_, _, h3⟩ := tailsD_spec Tl [] hT (T1 ++ i :: X) j Y (by rw [hTl]; simp)
              simp only [List.append_nil, List.reverse_append, List.reverse_cons, List.append_assoc] at h3
              rcases List.eq_nil_or_concat X with hX | ⟨X', q, hX⟩
              · subst hX
                exact hnotdep j hj i (.inr (.inr (by simp))) (by simpa using h3)
              · rw [hX] at h3
                exact hnotdep j hj q (.inr (.inr (by rw [hX]; simp))) (by simpa using h3)
          subst hjm'
          obtain ⟨_, h2, h3⟩ := tailsD_spec Tl [] hT T1 j T' hTl
          have hL0 : L = [] := by
            rcases List.eq_nil_or_concat L with hL | ⟨L', q, hL⟩
            · exact hL
            · obtain rfl : T1 = [] := hLT (by rw [hL]; simp)
              simp only [List.reverse_nil, List.append_nil] at h3
              have hqL : q ∈ L := by rw [hL]; simp
              rcases h3 q (hLA q hqL) with h4 | ⟨u, hu, hqu, hd⟩
              · exact (hnotdep j hj q (.inr (.inl hqL)) h4).elim
              · have h5 := hup u hu q hqL hd
                rw [hL, List.concat_eq_append] at h5 hpL
                rcases List.mem_append.1 h5 with h6 | h6
                · have := (List.pairwise_append.1 hpL).2.2 u h6 q (by simp); omega
                · simp at h6; omega
          subst hL0
          have hap : ∀ r ∈ R, (opAt ops r).apart ops o = true := by
            intro r hr
            rcases h2 r (hRB r hr) with hd | h1
            · exact (hnotdep j hj r (.inl hr) hd).elim
            · rw [hoj] at h1; exact h1
          obtain ⟨a1, hK, he, hp'⟩ := BW.push' hsel (fun cs b => hsel' j o cs b ho) R a hap h
          simp only [List.length_nil, List.map_cons, AD, TG] at hK
          obtain ⟨hg, hrun⟩ := hK
          rw [hoj] at hg hrun
          have hwd : Region.wanted o (yielded ops a.tmps) = true := by simp [Region.wanted, hg]
          unfold wpOp
          simp only [ho, hwd, if_true]
          refine .inl ?_
          unfold Oper.wp
          rw [← he]
          refine (hrun w hF).upon fun v w1 ⟨F', hs', he', hF1, hK1⟩ => ?_
          refine ih R [] (T1 ++ [j]) T' F' _ _ w1 (by simp at hf ⊢; omega) (by rw [hTl]; simp) (fun hne => absurd rfl hne) (by simpa using hs) ?_ hRB hp (fun i hi => by cases hi) (by simp) (fun q _ r hr => by cases hr) hs' he' hF1 (hp' v _ hK1)
          intro i
          by_cases hij : j = i
          · subst hij
            have hjs : j < listed.size := by omega
            constructor
            · intro hx; simp [hjs] at hx
            · rintro (h1 | h1 | h1)
              · exact (dBT j (hRB j h1) (hTm j (by simp))).elim
              · cases h1
              · exact absurd h1 (List.nodup_cons.1 hndT).1
          · rw [getD_set_ne true hij, hR i]
            simp [Ne.symm hij]

theorem wp_region_D {id : Nat} {l : List Oper} (Bd Al Tl : List Nat) (S F : World → Prop) {a : Act} {w : World} (hst : Stable F) (hFS : ∀ w, F w → S w) (hS : F w.drew) (hm : P.follows .mixedOrders = true) (hok : genD l.toArray Bd Al Tl = true)
    (h : BL P l.toArray S (pick l Bd) a (fun a' => AD P l.toArray S Q (pick l Tl) Al.length Al a' F)) : (Code.region id l.toArray true).wp P Q a w := by
  rw [pick_eq, pick_eq] at h
  have hok' := hok
  simp only [genD, Bool.and_eq_true, decide_eq_true_eq] at hok'
  obtain ⟨⟨⟨⟨⟨⟨⟨hns, hlen, hcov⟩, hnd, hbd⟩, hsort⟩, hB⟩, hsA⟩, hA⟩, hT⟩ := hok'
  have n1 : Bd.Nodup := by rw [List.append_assoc, List.nodup_append] at hnd; exact hnd.1
  obtain ⟨val, hv⟩ := BL.bwR Bd a n1 h
  refine wp_region_any hm ?_
  refine wpAny_D (S := S) hok _ Bd Al [] Tl F _ _ _ ?_ rfl (fun _ => rfl) (by simp) (fun i => ?_) (fun i hi => hi) hsort (fun i hi => hi) hsA (fun q hq _ _ _ => hq) hst hFS hS hv
  · simp only [List.length_append] at hlen; omega
  · have hperm : ∀ i, i < l.length → i ∈ Bd ∨ i ∈ Al ∨ i ∈ Tl := by
      intro i hi
      have := (List.all_eq_true.1 hcov) i (by simpa using hi)
      simpa [or_assoc] using this
    rcases Nat.lt_or_ge i l.length with hi | hi
    · simp [hi, hperm i hi]
    · have : ¬ (i ∈ Bd ∨ i ∈ Al ∨ i ∈ Tl) := fun h => by
        have := (List.all_eq_true.1 hbd) i (by simpa [or_assoc] using h)
        have h2 := of_decide_eq_true this
        rw [List.size_toArray] at h2; omega
      simp only [this, iff_false]
      rw [Array.getD_eq_getD_getElem?, Array.getElem?_eq_none (by rw [Array.size_replicate, List.size_toArray]; exact hi)]
      simp


def putL (ops : Array Oper) (val : Nat → Value) (l : List Nat) (a : Act) : Act := l.foldl (fun a j => a.put (opAt ops j).dst (val j)) a
theorem putL_congr {val val' : Nat → Value} : ∀ (l : List Nat) (a : Act), (∀ j ∈ l, val j = val' j) → putL ops val l a = putL ops val' l a
  | [], _, _ => rfl
  | j :: l, a, h => by
    unfold putL
    simp only [List.foldl_cons]
    rw [h j (by simp)]
    exact putL_congr l _ fun i hi => h i (by simp [hi])
theorem TG.mono : ∀ (T : List Oper) {a : Act} {F F' : World → Prop}, (∀ w, F' w → F w) → TG P S Q T a F → TG P S Q T a F'
  | [], _, _, _, h, k => fun w hw => k w (h w hw)
  | _ :: _, _, _, _, h, k => ⟨k.1, fun w hw => k.2 w (h w hw)⟩
theorem RunsTo.mono {G G' : Value → World → Prop} (h : ∀ v w, G v w → G' v w) {r : Result Next} (k : RunsTo P G r) : RunsTo P G' r := by
  cases r with
  | ok n w' =>
    cases n <;> simp only [RunsTo] at k ⊢
    case value u => exact h _ _ k
    case skip => exact h _ _ k
    case enter f args => exact Calls.mono k fun e w'' ⟨v, he, hw⟩ => ⟨v, he, h _ _ hw⟩
  | halt x w' => exact k.elim
structure SK where
  j : Nat
  uses : List Nat
  spoil : Option (List Nat × List Nat)
abbrev GT := (Nat → Value) → Value → World → Prop
def aftL (ops : Array Oper) (j : Nat) : List Nat → List Nat → List Nat
  | [], A => A
  | d :: r, A => aftL ops j r (if deps ops d j || A.any (fun k => deps ops d k) then d :: A else A)
def spoils (s : SK) (d : Nat) : Bool := match s.spoil with | none => false | some (l, _) => l.contains d
def skOk (ops : Array Oper) (sk : List SK) : Bool :=
  Region.noSelect ops && decide (sk.map (·.j)).Nodup && sk.all fun s =>
    ((opAt ops s.j).guard.isNone && decide s.uses.Nodup) &&
    (s.uses.all fun d => (sk.map (·.j)).contains d && deps ops s.j d && sk.all fun k => !spoils k d || k.j == s.j || deps ops k.j s.j) &&
    (sk.all fun i => (i.j == s.j || match (opAt ops i.j).dst with | some d => (opAt ops s.j).dst != some d | none => true) &&
      (s.uses.contains i.j || match (opAt ops i.j).dst with | some d => !((opAt ops s.j).looksAt ops).contains d | none => true)) &&
    match s.spoil with | none => true | some (l, k) => (sk.map (·.j)).all fun d => l.contains d || k.contains d || d == s.j || (aftL ops s.j (sk.map (·.j)) []).contains d
theorem aftL_spec {j : Nat} {D al : List Nat} (hj : j ∉ D) (hdc : ∀ i ∈ D, ∀ d ∈ al, deps ops i d = true → d ∈ D) (hjal : j ∈ al) : ∀ (l A : List Nat), (∀ d ∈ l, d ∈ al) → (∀ d ∈ A, d ∉ D ∧ d ∈ al) → ∀ d ∈ aftL ops j l A, d ∉ D
  | [], A, _, hA, d, hd => (hA d hd).1
  | x :: r, A, hl, hA, d, hd => by
    rw [aftL] at hd
    refine aftL_spec hj hdc hjal r _ (fun y hy => hl y (by simp [hy])) ?_ d hd
    intro y hy
    split at hy
    · rename_i hc
      rcases List.mem_cons.1 hy with rfl | hy
      · refine ⟨fun hyD => ?_, hl y (by simp)⟩
        simp only [Bool.or_eq_true, List.any_eq_true] at hc
        rcases hc with hc | ⟨k, hk, hkd⟩
        · exact hj (hdc y hyD j hjal hc)
        · exact (hA k hk).1 (hdc y hyD k (hA k hk).2 hkd)
      · exact hA y hy
    · exact hA y hy
theorem split_perm : ∀ (U D : List Nat), U.Nodup → D.Nodup → (∀ u ∈ U, u ∈ D) → ∃ R, (U ++ R).Perm D ∧ ∀ r ∈ R, r ∈ D ∧ r ∉ U
  | [], D, _, _, _ => ⟨D, List.Perm.refl _, fun r hr => ⟨hr, by simp⟩⟩
  | u :: U, D, hU, hD, h => by
    have hu := List.nodup_cons.1 hU
    obtain ⟨R, h1, h2⟩ := split_perm U (D.erase u) hu.2 (hD.erase u) fun x hx => (hD.mem_erase_iff).2 ⟨fun e => hu.1 (e ▸ hx), h x (by simp [hx])⟩
    refine ⟨R, (List.Perm.cons u h1).trans (List.perm_cons_erase (h u (by simp))).symm, fun r hr => ?_⟩
    obtain ⟨h3, h4⟩ := h2 r hr
    have h5 := (hD.mem_erase_iff).1 h3
    exact ⟨h5.2, by simp [h5.1, h4]⟩
theorem ad_rel (sk : List SK) {a1 : Act} {F : World → Prop} (G : Nat → GT) (hok : skOk ops sk = true) (hF : Stable F) (hFS : ∀ w, F w → S w) (hG : ∀ s ∈ sk, ∀ val v, Stable (G s.j val v))
    (hloc : ∀ s ∈ sk, ∀ val val' : Nat → Value, (∀ d ∈ s.uses, val d = val' d) → ∀ v w, G s.j val v w → G s.j val' v w) {T : List Oper}
    (hOb : ∀ s ∈ sk, ∀ (val : Nat → Value) w, F w → (∀ d ∈ s.uses, G d val (val d) w) → RunsTo P (fun v w1 => G s.j val v w1 ∧ (match s.spoil with | none => Ext w w1 | some (_, k) => F w1 ∧ ∀ d ∈ k, ∀ val u, G d val u w → G d val u w1)) ((execOp (putL ops val s.uses a1).eval (opAt ops s.j)).run P w))
    (hT : ∀ val, TG P S Q T (putL ops val (sk.map (·.j)) a1) (fun w => F w ∧ ∀ s ∈ sk, (sk.all fun k => !spoils k s.j) = true → G s.j val (val s.j) w)) : AD P ops S Q T (sk.map (·.j)).length (sk.map (·.j)) a1 F := by
  simp only [skOk, Bool.and_eq_true, decide_eq_true_eq, List.all_eq_true] at hok
  obtain ⟨⟨hns, hnd⟩, hok⟩ := hok
  generalize hal : sk.map (·.j) = al at *
  have hsk : ∀ j ∈ al, ∃ s ∈ sk, s.j = j := fun j hj => by rw [← hal] at hj; exact List.mem_map.1 hj
  have hks : ∀ s ∈ sk, s.j ∈ al := fun s hs => by rw [← hal]; exact List.mem_map.2 ⟨s, hs, rfl⟩
  have hsel : ∀ i cs b, (opAt ops i).op ≠ .select cs b := fun i cs b => by
    unfold opAt
    rw [Array.getD_eq_getD_getElem?]
    cases hi : ops[i]? with
    | none => simp [default, instInhabitedOper.default, instInhabitedOp.default]
    | some o => exact Region.noSelect_spec hns i o cs b hi
  have hne : ∀ i ∈ al, ∀ j ∈ al, i ≠ j → ∀ d, (opAt ops i).dst = some d → (opAt ops j).dst ≠ some d := fun i hi j hj hij d hd => by
    obtain ⟨si, hsi, rfl⟩ := hsk i hi
    obtain ⟨sj, hsj, rfl⟩ := hsk j hj
    have h := ((hok sj hsj).1.2 si hsi).1
    rw [hd] at h
    simp only [Bool.or_eq_true, beq_iff_eq, bne_iff_ne] at h
    rcases h with h | h
    · exact absurd h hij
    · exact h
  have hput : ∀ (val : Nat → Value) (s : SK), s ∈ sk → ∀ (L : List Nat) (a : Act), (∀ r ∈ L, r ∈ al ∧ r ∉ s.uses) → execOp (putL ops val L a).eval (opAt ops s.j) = execOp a.eval (opAt ops s.j) := by
    intro val s hs L
    induction L with
    | nil => intro a _; rfl
    | cons r L ih =>
      intro a h
      have : putL ops val (r :: L) a = putL ops val L (a.put (opAt ops r).dst (val r)) := rfl
      rw [this, ih _ fun x hx => h x (by simp [hx])]
      refine execOp_put (ops := ops) _ (hsel s.j) a _ _ fun d hd => ?_
      obtain ⟨h1, h2⟩ := h r (by simp)
      obtain ⟨si, hsi, rfl⟩ := hsk r h1
      have h3 := ((hok s hs).1.2 si hsi).2
      rw [hd] at h3
      simp only [Bool.or_eq_true, List.contains_iff_mem, Bool.not_eq_true', ← Bool.not_eq_true] at h3
      rcases h3 with h3 | h3
      · exact absurd h3 h2
      · simpa using h3
  have hperm : ∀ (val : Nat → Value) (L L' : List Nat) (a : Act), (∀ r ∈ L, r ∈ al) → L.Perm L' → putL ops val L a = putL ops val L' a := by
    intro val L L' a hL hp
    refine hp.foldl_eq' (fun x hx y hy z => ?_) a
    by_cases hxy : x = y
    · subst hxy; rfl
    · exact Act.put_comm z _ _ (hne x (hL x hx) y (hL y hy) hxy)
  have hgst : ∀ d ∈ al, ∀ val v, Stable (G d val v) := fun d hd => by obtain ⟨s, hs, rfl⟩ := hsk d hd; exact hG s hs
  have hst : ∀ (D : List Nat) (val : Nat → Value), (∀ d ∈ D, d ∈ al) → Stable fun w => F w ∧ ∀ d ∈ D, (∀ k ∈ sk, k.j ∈ D → spoils k d = false) → G d val (val d) w := fun D val hD w w' h e => ⟨hF _ _ h.1 e, fun d hd hk => hgst d (hD d hd) _ _ _ _ (h.2 d hd hk) e⟩
  have key : ∀ (k : Nat) (L D : List Nat) (a : Act) (val : Nat → Value), L.length = k → (D ++ L).Perm al → (∀ j ∈ D, ∀ d ∈ al, deps ops j d = true → d ∈ D) → a = putL ops val D a1 → AD P ops S Q T k L a (fun w => F w ∧ ∀ d ∈ D, (∀ k ∈ sk, k.j ∈ D → spoils k d = false) → G d val (val d) w) := by
    intro k
    induction k with
    | zero =>
      intro L D a val hl hp hdc ha
      obtain rfl : L = [] := List.eq_nil_of_length_eq_zero hl
      rw [List.append_nil] at hp
      rw [AD, ha, hperm val D al a1 (fun r hr => hp.mem_iff.1 hr) hp]
      refine TG.mono _ (fun w hw => ⟨hw.1, fun s hs hk => hw.2 s.j (hp.mem_iff.2 (hks s hs)) fun k hk' _ => ?_⟩) (hT val)
      have := (List.all_eq_true.1 hk) k hk'
      simpa using this
    | succ k ih =>
      intro L D a val hl hp hdc ha
      rw [AD]
      intro j hj hd
      have hDal : ∀ d ∈ D, d ∈ al := fun d hd => hp.mem_iff.1 (by simp [hd])
      have hjal : j ∈ al := hp.mem_iff.1 (by simp [hj])
      have hLal : ∀ r ∈ L, r ∈ al := fun r hr => hp.mem_iff.1 (by simp [hr])
      have hDL : (D ++ L).Nodup := hp.nodup_iff.2 hnd
      have hjD : j ∉ D := fun h => (List.nodup_append.1 hDL).2.2 j h j hj rfl
      have hjd : ∀ d ∈ al, deps ops j d = true → d ∈ D := fun d hd' hdep => by
        have : d ∈ D ++ L := hp.mem_iff.2 hd'
        rcases List.mem_append.1 this with h | h
        · exact h
        · rw [hd d h] at hdep; cases hdep
      obtain ⟨s, hs, rfl⟩ := hsk j hjal
      obtain ⟨⟨⟨hg, hus⟩, _⟩, hsp⟩ := hok s hs
      simp only [List.contains_iff_mem] at hus
      have huD : ∀ d ∈ s.uses, d ∈ D := fun d hd' => hjd d (hus d hd').1.1 (hus d hd').1.2
      refine ⟨by simpa using hg.1, fun w hw => ?_⟩
      have he : execOp (putL ops val s.uses a1).eval (opAt ops s.j) = execOp a.eval (opAt ops s.j) := by
        obtain ⟨R, h1, h2⟩ := split_perm s.uses D (by simpa using hg.2) (List.nodup_append.1 hDL).1 huD
        have h3 : putL ops val (s.uses ++ R) a1 = putL ops val R (putL ops val s.uses a1) := by unfold putL; rw [List.foldl_append]
        rw [ha, ← hperm val (s.uses ++ R) D a1 (fun r hr => hDal r (h1.mem_iff.1 hr)) h1, h3]
        exact (hput val s hs R _ fun r hr => ⟨hDal r (h2 r hr).1, (h2 r hr).2⟩).symm
      rw [← he]
      refine (hOb s hs val w hw.1 fun d hd' => ?_).mono fun v w1 ⟨hg1, hor⟩ => ?_
      · refine hw.2 d (huD d hd') fun k hk hkD => ?_
        have h3 := (hus d hd').2 k hk
        simp only [Bool.or_eq_true, Bool.not_eq_true', beq_iff_eq] at h3
        rcases h3 with (h3 | h3) | h3
        · exact h3
        · exact absurd (h3 ▸ hkD) hjD
        · exact absurd (hdc k.j hkD s.j hjal h3) hjD
      · have hval : ∀ d ∈ D, (if d = s.j then v else val d) = val d := fun d hd' => if_neg fun e : d = s.j => hjD (e ▸ hd')
        have hloc' : ∀ d ∈ D, ∀ u w, G d val u w → G d (fun i => if i = s.j then v else val i) u w := fun d hd' u w h => by
          obtain ⟨sd, hsd, rfl⟩ := hsk d (hDal d hd')
          refine hloc sd hsd _ _ (fun x hx => ?_) u w h
          have h4 := (hok sd hsd).1.1.2
          simp only [List.contains_iff_mem] at h4
          exact (hval x (hdc sd.j hd' x (h4 x hx).1.1 (h4 x hx).1.2)).symm
        refine ⟨_, hst (D ++ [s.j]) (fun i => if i = s.j then v else val i) (fun d hd' => by rcases List.mem_append.1 hd' with h | h; exact hDal d h; simp at h; exact h ▸ hjal), fun w h => hFS w h.1, ⟨?_, fun d hd' hk => ?_⟩, ih (L.erase s.j) (D ++ [s.j]) _ (fun i => if i = s.j then v else val i) (by rw [List.length_erase_of_mem hj]; omega) ?_ ?_ ?_⟩
        · cases hsj : s.spoil with
          | none => rw [hsj] at hor; exact hF _ _ hw.1 hor
          | some lk => obtain ⟨l, k⟩ := lk; rw [hsj] at hor; exact hor.1
        · rcases List.mem_append.1 hd' with h1 | h1
          · simp only [hval d h1]
            refine hloc' d h1 _ _ ?_
            have h2 := hw.2 d h1 fun k hk' hkD => hk k hk' (by simp [hkD])
            have h5 := hk s hs (by simp)
            cases hsj : s.spoil with
            | none => rw [hsj] at hor; exact hgst d (hDal d h1) _ _ _ _ h2 hor
            | some lk =>
              obtain ⟨l, k⟩ := lk
              rw [hsj] at hor hsp
              simp only [List.all_eq_true, Bool.or_eq_true, List.contains_iff_mem, beq_iff_eq] at hsp
              rcases hsp d (hDal d h1) with ((h6 | h6) | h6) | h6
              · simp [spoils, hsj, h6] at h5
              · exact hor.2 d h6 _ _ h2
              · exact absurd (h6 ▸ h1) hjD
              · exact absurd h1 (aftL_spec hjD hdc hjal al [] (fun _ h => h) (fun _ h => by cases h) d h6)
          · simp at h1
            subst h1
            simp only [if_true]
            refine hloc s hs _ _ (fun x hx => ?_) _ _ hg1
            exact (hval x (huD x hx)).symm
        · refine List.Perm.trans ?_ hp
          rw [List.append_assoc]
          exact List.Perm.append_left D (List.perm_cons_erase hj).symm
        · intro j' hj' d hd' hdep
          rcases List.mem_append.1 hj' with h1 | h1
          · simp [hdc j' h1 d hd' hdep]
          · simp at h1
            subst h1
            simp [hjd d hd' hdep]
        · have : putL ops (fun i => if i = s.j then v else val i) (D ++ [s.j]) a1 = (putL ops (fun i => if i = s.j then v else val i) D a1).put (opAt ops s.j).dst (if s.j = s.j then v else val s.j) := by unfold putL; rw [List.foldl_append]; rfl
          rw [this, if_pos rfl, ha]
          congr 1
          exact putL_congr D a1 fun i hi => (hval i hi).symm
  have h := key al.length al [] a1 (fun _ => undef) rfl (by simp) (by intro j hj; cases hj) rfl
  have e : (fun w => F w ∧ ∀ d ∈ ([] : List Nat), (∀ k ∈ sk, k.j ∈ ([] : List Nat) → spoils k d = false) → G d (fun _ => undef) undef w) = F := by funext w; simp
  rw [e] at h
  exact h

def getG : List (SK × GT) → Nat → GT
  | [], _ => fun _ _ _ => True
  | (s, g) :: r, d => if s.j = d then g else getG r d
def useF (es : List (SK × GT)) (val : Nat → Value) (w : World) : List Nat → Prop
  | [] => True
  | d :: r => getG es d val (val d) w ∧ useF es val w r
def useEq (val val' : Nat → Value) : List Nat → Prop
  | [] => True
  | d :: r => val d = val' d ∧ useEq val val' r
def keepF (es : List (SK × GT)) (w w1 : World) : List Nat → Prop
  | [] => True
  | d :: r => (∀ val u, getG es d val u w → getG es d val u w1) ∧ keepF es w w1 r
def spoilF (es : List (SK × GT)) (F : World → Prop) (w w1 : World) : Option (List Nat × List Nat) → Prop
  | none => Ext w w1
  | some (_, k) => F w1 ∧ keepF es w w1 k
def putP (l : List Oper) (val : Nat → Value) : List Nat → Act → Act
  | [], a => a
  | d :: r, a => putP l val r (a.put (pick1 l d).dst (val d))
def obF (P : Program) (l : List Oper) (F : World → Prop) (es : List (SK × GT)) (a1 : Act) : List (SK × GT) → Prop
  | [] => True
  | (s, g) :: r => ((∀ val v, Stable (g val v)) ∧ (∀ val val' v w, useEq val val' s.uses → g val v w → g val' v w) ∧
      ∀ val w, F w → useF es val w s.uses → RunsTo P (fun v w1 => g val v w1 ∧ spoilF es F w w1 s.spoil) ((execOp (putP l val s.uses a1).eval (pick1 l s.j)).run P w)) ∧ obF P l F es a1 r
def finF (es : List (SK × GT)) (val : Nat → Value) (w : World) : List (SK × GT) → Prop
  | [] => True
  | (s, g) :: r => ((es.all fun k => !spoils k.1 s.j) = true → g val (val s.j) w) ∧ finF es val w r
theorem getG_spec : ∀ {es : List (SK × GT)} {s : SK} {g : GT}, (es.map (·.1.j)).Nodup → (s, g) ∈ es → getG es s.j = g
  | [], _, _, _, h => by cases h
  | (s', g') :: r, s, g, hn, h => by
    rw [List.map_cons, List.nodup_cons] at hn
    rcases List.mem_cons.1 h with h | h
    · injection h with h1 h2
      subst h1 h2
      simp [getG]
    · have : s'.j ≠ s.j := fun e => hn.1 (e ▸ List.mem_map.2 ⟨(s, g), h, rfl⟩)
      rw [getG, if_neg this]
      exact getG_spec hn.2 h
theorem useF_of {es : List (SK × GT)} {val : Nat → Value} {w : World} : ∀ {l : List Nat}, (∀ d ∈ l, getG es d val (val d) w) → useF es val w l
  | [], _ => trivial
  | d :: r, h => ⟨h d (by simp), useF_of fun x hx => h x (by simp [hx])⟩
theorem useEq_of {val val' : Nat → Value} : ∀ {l : List Nat}, (∀ d ∈ l, val d = val' d) → useEq val val' l
  | [], _ => trivial
  | d :: r, h => ⟨h d (by simp), useEq_of fun x hx => h x (by simp [hx])⟩
theorem keepF_to {es : List (SK × GT)} {w w1 : World} : ∀ {l : List Nat}, keepF es w w1 l → ∀ d ∈ l, ∀ val u, getG es d val u w → getG es d val u w1
  | [], _, d, hd => by cases hd
  | x :: r, h, d, hd => by
    rcases List.mem_cons.1 hd with rfl | hd
    · exact h.1
    · exact keepF_to h.2 d hd
theorem putP_eq (l : List Oper) (val : Nat → Value) : ∀ (L : List Nat) (a : Act), putL l.toArray val L a = putP l val L a
  | [], _ => rfl
  | d :: r, a => by
    have : putL l.toArray val (d :: r) a = putL l.toArray val r (a.put (opAt l.toArray d).dst (val d)) := rfl
    rw [this, putP_eq l val r, putP, pick1_eq]
theorem obF_to {l : List Oper} {F : World → Prop} {es : List (SK × GT)} {a1 : Act} : ∀ {es' : List (SK × GT)}, obF P l F es a1 es' → ∀ s g, (s, g) ∈ es' → (∀ val v, Stable (g val v)) ∧ (∀ val val' v w, useEq val val' s.uses → g val v w → g val' v w) ∧
      ∀ val w, F w → useF es val w s.uses → RunsTo P (fun v w1 => g val v w1 ∧ spoilF es F w w1 s.spoil) ((execOp (putP l val s.uses a1).eval (pick1 l s.j)).run P w)
  | [], _, _, _, h => by cases h
  | (s', g') :: r, h, s, g, hm => by
    rcases List.mem_cons.1 hm with hm | hm
    · injection hm with h1 h2
      subst h1 h2
      exact h.1
    · exact obF_to h.2 s g hm
theorem finF_of {es : List (SK × GT)} {val : Nat → Value} {w : World} : ∀ {es' : List (SK × GT)}, (∀ s g, (s, g) ∈ es' → (es.all fun k => !spoils k.1 s.j) = true → g val (val s.j) w) → finF es val w es'
  | [], _ => trivial
  | (s, g) :: r, h => ⟨h s g (by simp), finF_of fun s' g' hm => h s' g' (by simp [hm])⟩
end
end Go.Proofs.YtfniicgoeljmdaaGreat
