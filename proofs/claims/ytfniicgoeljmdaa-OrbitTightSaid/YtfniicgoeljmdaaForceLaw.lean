/- What moves a small body: the plain law. No condition. -/
import Derived.Test.YtfniicgoeljmdaaSpanLaw
import Derived.Test.YtfniicgoeljmdaaRelTail
namespace Go.Proofs.Ytfniicgoeljmdaa
open Go.RowKit

structure Ar where
  x : Sp
  y : Sp
structure Drf where
  light : Sp
  heat : Sp
  gas : Int
def boundErr (s : Sp) (lo hi : Int) : Int := if s.hi < s.lo then 11 else if s.lo < lo ∨ hi < s.hi then 2 else 0
theorem boundErr_ok {s : Sp} {lo hi : Int} : boundErr s lo hi = 0 ↔ lo ≤ s.lo ∧ s.lo ≤ s.hi ∧ s.hi ≤ hi := by
  unfold boundErr
  by_cases h1 : s.hi < s.lo
  · rw [if_pos h1]; constructor
    · intro h; cases h
    · omega
  · rw [if_neg h1]
    by_cases h2 : s.lo < lo ∨ hi < s.hi
    · rw [if_pos h2]; constructor
      · intro h; cases h
      · omega
    · rw [if_neg h2]; constructor
      · intro _; omega
      · intro _; rfl
def driftErr (d : Drf) : Int := if boundErr d.light 0 1000 = 0 then (if boundErr d.heat (-1000) 1000 = 0 then (if within d.gas 0 1000 then 0 else 2) else boundErr d.heat (-1000) 1000) else boundErr d.light 0 1000
def far4 (a : Ar) : Bool := (within a.x.lo (-268435456) 268435456 && within a.x.hi (-268435456) 268435456) && (within a.y.lo (-268435456) 268435456 && within a.y.hi (-268435456) 268435456)
def areaErr (a : Ar) : Int := if sp2Err a.x a.y = 0 then (if far4 a then 0 else 2) else sp2Err a.x a.y
def inPlace (s : Sp) : Bool := decide (-33554432 ≤ s.lo) && decide (s.hi ≤ 33554432)
def fAskErr (l : List Body) (home : Int) (d : Drf) (tick : Int) (a : Ar) : Int :=
  if wldErr ⟨l, home⟩ = 0 then (if driftErr d = 0 then (if within tick 0 1073741824 then (if areaErr a = 0 then (if inPlace a.x && inPlace a.y then 0 else 2) else areaErr a) else 2) else driftErr d) else wldErr ⟨l, home⟩

def addS (a b : Sp) : Sp := (addM a b).s
def subS (a b : Sp) : Sp := (subM a b).s
def mulS (a b : Sp) : Sp := (mulM a b).s
def quotS (a b : Sp) : Sp := (quotM a b).s
def squareS (a : Sp) : Sp := (squareM a).s
def sumS (a b : Sp) : Sp := ⟨a.lo + b.lo, a.hi + b.hi⟩
def sumA (a b : Ar) : Ar := ⟨sumS a.x b.x, sumS a.y b.y⟩
def Sm (n : Int) (s : Sp) : Prop := -n ≤ s.lo ∧ s.lo ≤ s.hi ∧ s.hi ≤ n
def SmA (n : Int) (a : Ar) : Prop := Sm n a.x ∧ Sm n a.y
theorem Sm.mono {n m : Int} {s : Sp} (h : Sm n s) (hm : n ≤ m) : Sm m s := ⟨by have := h.1; omega, h.2.1, by have := h.2.2; omega⟩
theorem SmA.mono {n m : Int} {s : Ar} (h : SmA n s) (hm : n ≤ m) : SmA m s := ⟨h.1.mono hm, h.2.mono hm⟩
theorem Sm.err {n : Int} {s : Sp} (h : Sm n s) (hn : n ≤ 1152921504606846976) : spErr s = 0 := spErr_ok.2 ⟨by have := h.1; omega, h.2.1, by have := h.2.2; omega⟩
theorem Sm.err2 {n m : Int} {s t : Sp} (h : Sm n s) (k : Sm m t) (hn : n ≤ 1152921504606846976) (hm : m ≤ 1152921504606846976) : sp2Err s t = 0 := by
  unfold sp2Err; rw [if_pos (h.err hn), k.err hm]
theorem fitsP_of {n : Int} (h : -1152921504606846976 ≤ n ∧ n ≤ 1152921504606846976) : fitsP n = true := fitsP_iff.2 h
theorem Sm.add {n m : Int} {s t : Sp} (h : Sm n s) (k : Sm m t) : Sm (n + m) (sumS s t) := by
  unfold Sm sumS at *; dsimp only; omega
theorem SmA.add {n m : Int} {s t : Ar} (h : SmA n s) (k : SmA m t) : SmA (n + m) (sumA s t) := ⟨h.1.add k.1, h.2.add k.2⟩
theorem addM_small {n m : Int} {s t : Sp} (h : Sm n s) (k : Sm m t) (hn : 0 ≤ n) (hm : 0 ≤ m) (hnm : n + m ≤ 1152921504606846976) : addM s t = ⟨sumS s t, 0⟩ := by
  have hs := h.add k
  unfold addM endsM
  rw [if_pos (h.err2 k (by omega) (by omega))]
  unfold Sm sumS at *
  dsimp only at hs
  rw [fitsP_of (by omega), fitsP_of (by omega)]
  rfl
theorem addS_small {n m : Int} {s t : Sp} (h : Sm n s) (k : Sm m t) (hn : 0 ≤ n) (hm : 0 ≤ m) (hnm : n + m ≤ 1152921504606846976) : addS s t = sumS s t := by
  rw [addS, addM_small h k hn hm hnm]
theorem subM_small {n m : Int} {s t : Sp} (h : Sm n s) (k : Sm m t) (hn : 0 ≤ n) (hm : 0 ≤ m) (hnm : n + m ≤ 1152921504606846976) : subM s t = ⟨⟨s.lo - t.hi, s.hi - t.lo⟩, 0⟩ := by
  unfold subM endsM
  rw [if_pos (h.err2 k (by omega) (by omega))]
  unfold Sm at *
  rw [fitsP_of (by omega), fitsP_of (by omega)]
  rfl
theorem sumS_zero (s : Sp) : sumS ⟨0, 0⟩ s = s := by
  obtain ⟨a, b⟩ := s
  simp [sumS]
theorem sumS_assoc (a b c : Sp) : sumS (sumS a b) c = sumS a (sumS b c) := by simp only [sumS, Sp.mk.injEq]; omega
theorem sumS_comm (a b : Sp) : sumS a b = sumS b a := by simp only [sumS, Sp.mk.injEq]; omega
theorem sumA_zero (s : Ar) : sumA ⟨⟨0, 0⟩, ⟨0, 0⟩⟩ s = s := by
  obtain ⟨a, b⟩ := s
  simp [sumA, sumS_zero]
theorem sumA_assoc (a b c : Ar) : sumA (sumA a b) c = sumA a (sumA b c) := by simp only [sumA, sumS_assoc]
theorem sumA_comm (a b : Ar) : sumA a b = sumA b a := by unfold sumA; rw [sumS_comm a.x, sumS_comm a.y]

def edgeM (r : Int) : Int := max 1 (r * r)
def toM (p : Vec) (a : Ar) : Ar := ⟨subS ⟨p.x, p.x⟩ a.x, subS ⟨p.y, p.y⟩ a.y⟩
def qM (r : Int) (v : Ar) : Sp := ⟨max (addS (squareS v.x) (squareS v.y)).lo (edgeM r), max (addS (squareS v.x) (squareS v.y)).hi (edgeM r)⟩
def rM (q : Sp) : Sp := (rootsM q).s
def scQ (mu n d : Int) : Quo := if (mulDivM mu n d).e = 0 then mulDivM mu n d else if n < 0 then ⟨-1152921504606846976, -1152921504606846976, 0⟩ else ⟨1152921504606846976, 1152921504606846976, 0⟩
def scaledM (mu : Int) (x q : Sp) : Sp := (joinAll (cornQ (scQ mu) x q) ⟨1152921504606846976, -1152921504606846976⟩).s
def clampI (n : Int) : Int := min (max n (-1048576)) 1048576
def clampS (s : Sp) : Sp := ⟨clampI s.lo, clampI s.hi⟩
def towardM (mu : Int) (x q r : Sp) : Sp := clampS (quotS (scaledM mu x q) r)
def pullM (b : Body) (p : Vec) (a : Ar) : Ar := ⟨towardM b.mu (toM p a).x (qM b.radius (toM p a)) (rM (qM b.radius (toM p a))), towardM b.mu (toM p a).y (qM b.radius (toM p a)) (rM (qM b.radius (toM p a)))⟩
def partM (a b : Sp) : Sp := quotS (mulS a b) ⟨1000, 1000⟩
def minusS (s : Sp) : Sp := ⟨-s.hi, -s.lo⟩
def lightM (d : Drf) (sun : Ar) : Ar := ⟨minusS (partM d.light sun.x), minusS (partM d.light sun.y)⟩
def heatM (d : Drf) (sun : Ar) : Ar := ⟨minusS (partM d.heat sun.y), partM d.heat sun.x⟩
def gasM (d : Drf) : Ar := ⟨⟨-d.gas, d.gas⟩, ⟨-d.gas, d.gas⟩⟩
def pullsF (l : List Body) (home tick : Int) (a : Ar) : List Body → Nat → List (Nat × Ar)
  | [], _ => []
  | b :: r, k => (k, pullM b (atM l home k tick) a) :: pullsF l home tick a r (k + 1)
def pullsM (l : List Body) (home tick : Int) (a : Ar) : List (Nat × Ar) := pullsF l home tick a l 0
def sunM (l : List Body) (home tick : Int) (a : Ar) : Ar := pullM (l.getD 0 ⟨0, 0, []⟩) (atM l home 0 tick) a
def sumL (o : Ar) (ps : List (Nat × Ar)) : Ar := ps.foldl (fun o p => sumA o p.2) o
def overA (l : List Body) (home : Int) (d : Drf) (tick : Int) (a : Ar) : Ar :=
  sumL (sumA (sumA (gasM d) (lightM d (sunM l home tick a))) (heatM d (sunM l home tick a))) (pullsM l home tick a)
structure ArR where
  a : Ar
  e : Int
def overM (l : List Body) (home : Int) (d : Drf) (tick : Int) (a : Ar) : ArR :=
  if fAskErr l home d tick a = 0 then ⟨overA l home d tick a, 0⟩ else ⟨⟨⟨0, 0⟩, ⟨0, 0⟩⟩, fAskErr l home d tick a⟩

theorem joinAll_ok : ∀ (L : List Quo) (o : Sp), (∀ q ∈ L, QuoOk q) → -1152921504606846976 ≤ o.lo ∧ o.lo ≤ 1152921504606846976 ∧ -1152921504606846976 ≤ o.hi ∧ o.hi ≤ 1152921504606846976 → (o.lo ≤ o.hi ∨ L ≠ []) → (joinAll L o).e = 0 → Sm 1152921504606846976 (joinAll L o).s
  | [], o, _, h, h2, _ => by
    rcases h2 with h2 | h2
    · exact ⟨h.1, h2, h.2.2.2⟩
    · exact absurd rfl h2
  | q :: L, o, hL, h, h2, he => by
    have hq := hL q (by simp)
    rw [joinAll] at he ⊢
    by_cases h0 : q.e = 0
    · rw [if_pos h0] at he ⊢
      unfold QuoOk at hq
      refine joinAll_ok L _ (fun x hx => hL x (by simp [hx])) ?_ (.inl ?_) he
      · unfold joinQ; dsimp only; omega
      · unfold joinQ; dsimp only; omega
    · rw [if_neg h0] at he
      exact absurd he h0
theorem noSp_sm {n : Int} (e : Int) (hn : 0 ≤ n) : Sm n (noSp e).s := ⟨by dsimp only [noSp]; omega, Int.le_refl _, hn⟩
theorem joinAll_err : ∀ (L : List Quo) (o : Sp), (joinAll L o).e ≠ 0 → (joinAll L o).s = ⟨0, 0⟩
  | [], _, h => absurd rfl h
  | q :: L, o, h => by
    rw [joinAll] at h ⊢
    by_cases h0 : q.e = 0
    · rw [if_pos h0] at h ⊢
      exact joinAll_err L _ h
    · rw [if_neg h0]; rfl
theorem joinAll_sm {f : Int → Int → Quo} (hf : ∀ x y, QuoOk (f x y)) (a b : Sp) : Sm 1152921504606846976 (joinAll (cornQ f a b) ⟨1152921504606846976, -1152921504606846976⟩).s := by
  by_cases he : (joinAll (cornQ f a b) ⟨1152921504606846976, -1152921504606846976⟩).e = 0
  · exact joinAll_ok _ _ (cornQ_ok hf a b) ⟨by decide, by decide, by decide, by decide⟩ (.inr (by simp [cornQ, pairsL])) he
  · rw [joinAll_err _ _ he]; exact ⟨by dsimp only; omega, Int.le_refl _, by dsimp only; omega⟩
theorem mulS_sm (a b : Sp) : Sm 1152921504606846976 (mulS a b) := by
  unfold mulS mulM combM
  split
  · exact joinAll_sm (fun _ _ => mulDiv_ok _ _ _) a b
  · exact noSp_sm _ (by omega)
theorem quotS_sm (a b : Sp) : Sm 1152921504606846976 (quotS a b) := by
  unfold quotS quotM combM
  split
  · split
    · exact noSp_sm _ (by omega)
    · exact joinAll_sm (fun _ _ => mulDiv_ok _ _ _) a b
  · exact noSp_sm _ (by omega)
theorem scQ_ok (mu n d : Int) : QuoOk (scQ mu n d) := by
  unfold scQ
  split
  · exact mulDiv_ok _ _ _
  · split
    · left; exact ⟨rfl, by dsimp only; omega, by dsimp only; omega, by dsimp only; omega⟩
    · left; exact ⟨rfl, by dsimp only; omega, by dsimp only; omega, by dsimp only; omega⟩
theorem scQ_e (mu n d : Int) : (scQ mu n d).e = 0 := by
  unfold scQ
  split
  · assumption
  · split <;> rfl
theorem scaledM_sm (mu : Int) (x q : Sp) : Sm 1152921504606846976 (scaledM mu x q) := joinAll_sm (scQ_ok mu) x q
theorem clamp_sm {n : Int} {s : Sp} (h : Sm n s) : Sm 1048576 (clampS s) := by
  unfold Sm clampS clampI at *; dsimp only; omega
theorem towardM_sm (mu : Int) (x q r : Sp) : Sm 1048576 (towardM mu x q r) := clamp_sm (quotS_sm _ _)
theorem pullM_sm (b : Body) (p : Vec) (a : Ar) : SmA 1048576 (pullM b p a) := ⟨towardM_sm _ _ _ _, towardM_sm _ _ _ _⟩
theorem quot1000 {x : Int} (h : -1152921504606846976 ≤ x ∧ x ≤ 1152921504606846976) : (quotF x 1000).e = 0 ∧ -1152921504606847 ≤ (quotF x 1000).lo ∧ (quotF x 1000).lo ≤ (quotF x 1000).hi ∧ (quotF x 1000).hi ≤ 1152921504606847 := by
  unfold quotF mulDivM quoM
  rw [show (1 : Int).natAbs = 1 from rfl, Nat.mul_one, show (1000 : Int).natAbs = 1000 from rfl]
  generalize hu : (if x.natAbs % 1000 = 0 then 0 else 1) = u
  have hu1 : u = 0 ∧ x.natAbs % 1000 = 0 ∨ u = 1 := by rw [← hu]; split <;> omega
  clear hu
  rw [if_neg (by omega)]
  split <;> dsimp only <;> omega
theorem quotS1000_sm {a : Sp} (h : Sm 1152921504606846976 a) : Sm 1152921504606847 (quotS a ⟨1000, 1000⟩) := by
  have h1 := quot1000 (x := a.lo) ⟨h.1, by have := h.2; omega⟩
  have h2 := quot1000 (x := a.hi) ⟨by have := h.1; have := h.2; omega, h.2.2⟩
  unfold quotS quotM combM
  rw [if_pos (by rw [sp2Err, if_pos (h.err (by omega))]; rfl), if_neg (by simp [within]), if_pos (by rw [sp2Err, if_pos (h.err (by omega))]; rfl)]
  simp only [cornQ, pairsL, List.map_cons, List.map_nil, joinAll, h1.1, h2.1, if_true, joinQ]
  unfold Sm; dsimp only; omega
theorem partM_sm (a b : Sp) : Sm 1152921504606847 (partM a b) := quotS1000_sm (mulS_sm a b)
theorem minusS_sm {n : Int} {s : Sp} (h : Sm n s) : Sm n (minusS s) := by unfold Sm minusS at *; dsimp only; omega
theorem lightM_sm (d : Drf) (s : Ar) : SmA 1152921504606847 (lightM d s) := ⟨minusS_sm (partM_sm _ _), minusS_sm (partM_sm _ _)⟩
theorem heatM_sm (d : Drf) (s : Ar) : SmA 1152921504606847 (heatM d s) := ⟨minusS_sm (partM_sm _ _), partM_sm _ _⟩
theorem driftErr_ok {d : Drf} (h : driftErr d = 0) : Sm 1000 d.light ∧ Sm 1000 d.heat ∧ 0 ≤ d.light.lo ∧ 0 ≤ d.gas ∧ d.gas ≤ 1000 := by
  unfold driftErr at h
  by_cases h1 : boundErr d.light 0 1000 = 0
  · rw [if_pos h1] at h
    by_cases h2 : boundErr d.heat (-1000) 1000 = 0
    · rw [if_pos h2] at h
      have h1 := boundErr_ok.1 h1
      have h2 := boundErr_ok.1 h2
      unfold within at h
      by_cases h3 : (decide (0 ≤ d.gas) && decide (d.gas ≤ 1000)) = true
      · simp only [Bool.and_eq_true, decide_eq_true_eq] at h3
        unfold Sm; omega
      · rw [if_neg h3] at h; cases h
    · rw [if_neg h2] at h; exact absurd h h2
  · rw [if_neg h1] at h; exact absurd h h1
theorem gasM_sm {d : Drf} (h : driftErr d = 0) : SmA 1000 (gasM d) := by
  have := driftErr_ok h
  unfold SmA Sm gasM; dsimp only; omega
theorem pullsF_len (l : List Body) (home tick : Int) (a : Ar) : ∀ (r : List Body) (k : Nat), (pullsF l home tick a r k).length = r.length
  | [], _ => rfl
  | b :: r, k => by rw [pullsF, List.length_cons, List.length_cons, pullsF_len l home tick a r (k + 1)]
theorem pullsF_sm (l : List Body) (home tick : Int) (a : Ar) : ∀ (r : List Body) (k : Nat), ∀ p ∈ pullsF l home tick a r k, SmA 1048576 p.2
  | [], _, p, hp => by cases hp
  | b :: r, k, p, hp => by
    rcases List.mem_cons.1 hp with rfl | hp
    · exact pullM_sm _ _ _
    · exact pullsF_sm l home tick a r (k + 1) p hp
theorem pullsF_ne (l : List Body) (home tick : Int) (a : Ar) : ∀ (r : List Body) (k : Nat), ∀ p ∈ pullsF l home tick a r k, k ≤ p.1
  | [], _, p, hp => by cases hp
  | b :: r, k, p, hp => by
    rcases List.mem_cons.1 hp with rfl | hp
    · exact Nat.le_refl _
    · have := pullsF_ne l home tick a r (k + 1) p hp; omega
theorem sumL_sm {n : Int} (hn : 0 ≤ n) : ∀ (ps : List (Nat × Ar)) (o : Ar) (m : Int), SmA m o → (∀ p ∈ ps, SmA n p.2) → SmA (m + n * ps.length) (sumL o ps)
  | [], o, m, h, _ => by simpa [sumL] using h
  | p :: ps, o, m, h, hp => by
    have := sumL_sm hn ps (sumA o p.2) (m + n) (h.add (hp p (by simp))) fun q hq => hp q (by simp [hq])
    rw [List.length_cons]
    have e : m + n * ((ps.length + 1 : Nat) : Int) = m + n + n * (ps.length : Int) := by push_cast; rw [Int.mul_add, Int.mul_one]; omega
    rw [e]; exact this
def accP (d : Drf) (o : Ar) (p : Nat × Ar) : Ar := if p.1 = 0 then sumA (sumA (sumA o p.2) (lightM d p.2)) (heatM d p.2) else sumA o p.2
theorem acc_ne (d : Drf) : ∀ (ps : List (Nat × Ar)) (o : Ar), (∀ p ∈ ps, p.1 ≠ 0) → ps.foldl (accP d) o = sumL o ps
  | [], _, _ => rfl
  | p :: ps, o, h => by
    show ps.foldl (accP d) (accP d o p) = sumL (sumA o p.2) ps
    rw [accP, if_neg (h p (by simp))]
    exact acc_ne d ps _ fun q hq => h q (by simp [hq])
theorem over_acc {l : List Body} (home : Int) (d : Drf) (tick : Int) (a : Ar) (hl : l ≠ []) : (pullsM l home tick a).foldl (accP d) (gasM d) = overA l home d tick a := by
  obtain ⟨b, r, rfl⟩ := List.exists_cons_of_ne_nil hl
  unfold overA pullsM sunM
  rw [pullsF, List.foldl_cons, accP, if_pos rfl, acc_ne d _ _ fun p hp => by have := pullsF_ne _ _ _ _ _ _ p hp; omega]
  show sumL (sumA (sumA (sumA (gasM d) (pullM b _ a)) (lightM d (pullM b _ a))) (heatM d (pullM b _ a))) _ = sumL (sumA (sumA (sumA (gasM d) (lightM d (pullM b _ a))) (heatM d (pullM b _ a))) (pullM b _ a)) _
  congr 1
  generalize pullM b (atM (b :: r) home ((0 : Nat) : Int) tick) a = P
  generalize lightM d P = L
  generalize heatM d P = H
  rw [sumA_assoc (gasM d) P L, sumA_comm P L, ← sumA_assoc, sumA_assoc _ P H, sumA_comm P H, ← sumA_assoc]
theorem acc_sm (d : Drf) : ∀ (ps : List (Nat × Ar)) (o : Ar) (m : Int), SmA m o → (∀ p ∈ ps, SmA 1048576 p.2) → SmA (m + 2305843010262270 * ps.length) (ps.foldl (accP d) o)
  | [], o, m, h, _ => by simpa using h
  | p :: ps, o, m, h, hp => by
    have h1 : SmA (m + 2305843010262270) (accP d o p) := by
      have hs := hp p (by simp)
      unfold accP
      split
      · exact (((h.add hs).add (lightM_sm d p.2)).add (heatM_sm d p.2)).mono (by omega)
      · exact (h.add hs).mono (by omega)
    have := acc_sm d ps _ _ h1 fun q hq => hp q (by simp [hq])
    rw [List.length_cons, List.foldl_cons]
    exact this.mono (by push_cast; omega)
end Go.Proofs.Ytfniicgoeljmdaa
