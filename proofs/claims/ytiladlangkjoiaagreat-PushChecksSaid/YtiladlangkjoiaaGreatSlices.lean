/- What moves a small body: the plain law. No condition. What moves a body in a part of an area lies in what moves it in the whole: the plain law. No condition. Slices that a block of cells makes: numbers, spans, areas, boxes. No condition. -/
import Derived.Test.YtiladlangkjoiaaGreatSpanRoot
import Derived.Test.YtiladlangkjoiaaGreatOwnInts
namespace Go.Proofs.YtiladlangkjoiaaGreat
open Go.RowKit

structure Ar where
  x : Sp
  y : Sp
structure Drf where
  light : Sp
  heat : Sp
  gas : Int
def boundErr (s : Sp) (lo hi : Int) : Int := if s.hi < s.lo then 11 else if s.lo < lo ∨ hi < s.hi then 2 else 0
theorem boundErr_ok {s : Sp} {lo hi : Int} : boundErr s lo hi = 0 ↔ lo ≤ s.lo ∧ s.lo ≤ s.hi ∧ s.hi ≤ hi := by
  unfold boundErr
  by_cases h1 : s.hi < s.lo
  · rw [if_pos h1]; constructor
    · intro h; cases h
    · omega
  · rw [if_neg h1]
    by_cases h2 : s.lo < lo ∨ hi < s.hi
    · rw [if_pos h2]; constructor
      · intro h; cases h
      · omega
    · rw [if_neg h2]; constructor
      · intro _; omega
      · intro _; rfl
def driftErr (d : Drf) : Int := if boundErr d.light 0 1000 = 0 then (if boundErr d.heat (-1000) 1000 = 0 then (if within d.gas 0 1000 then 0 else 2) else boundErr d.heat (-1000) 1000) else boundErr d.light 0 1000
def far4 (a : Ar) : Bool := (within a.x.lo (-268435456) 268435456 && within a.x.hi (-268435456) 268435456) && (within a.y.lo (-268435456) 268435456 && within a.y.hi (-268435456) 268435456)
def areaErr (a : Ar) : Int := if sp2Err a.x a.y = 0 then (if far4 a then 0 else 2) else sp2Err a.x a.y
def inPlace (s : Sp) : Bool := decide (-33554432 ≤ s.lo) && decide (s.hi ≤ 33554432)
def fAskErr (l : List Body) (home : Int) (d : Drf) (tick : Int) (a : Ar) : Int :=
  if wldErr ⟨l, home⟩ = 0 then (if driftErr d = 0 then (if within tick 0 1073741824 then (if areaErr a = 0 then (if inPlace a.x && inPlace a.y then 0 else 2) else areaErr a) else 2) else driftErr d) else wldErr ⟨l, home⟩

def addS (a b : Sp) : Sp := (addM a b).s
def subS (a b : Sp) : Sp := (subM a b).s
def mulS (a b : Sp) : Sp := (mulM a b).s
def quotS (a b : Sp) : Sp := (quotM a b).s
def squareS (a : Sp) : Sp := (squareM a).s
def sumS (a b : Sp) : Sp := ⟨a.lo + b.lo, a.hi + b.hi⟩
def sumA (a b : Ar) : Ar := ⟨sumS a.x b.x, sumS a.y b.y⟩
def Sm (n : Int) (s : Sp) : Prop := -n ≤ s.lo ∧ s.lo ≤ s.hi ∧ s.hi ≤ n
def SmA (n : Int) (a : Ar) : Prop := Sm n a.x ∧ Sm n a.y
theorem Sm.mono {n m : Int} {s : Sp} (h : Sm n s) (hm : n ≤ m) : Sm m s := ⟨by have := h.1; omega, h.2.1, by have := h.2.2; omega⟩
theorem SmA.mono {n m : Int} {s : Ar} (h : SmA n s) (hm : n ≤ m) : SmA m s := ⟨h.1.mono hm, h.2.mono hm⟩
theorem Sm.err {n : Int} {s : Sp} (h : Sm n s) (hn : n ≤ 1152921504606846976) : spErr s = 0 := spErr_ok.2 ⟨by have := h.1; omega, h.2.1, by have := h.2.2; omega⟩
theorem Sm.err2 {n m : Int} {s t : Sp} (h : Sm n s) (k : Sm m t) (hn : n ≤ 1152921504606846976) (hm : m ≤ 1152921504606846976) : sp2Err s t = 0 := by
  unfold sp2Err; rw [if_pos (h.err hn), k.err hm]
theorem fitsP_of {n : Int} (h : -1152921504606846976 ≤ n ∧ n ≤ 1152921504606846976) : fitsP n = true := fitsP_iff.2 h
theorem Sm.add {n m : Int} {s t : Sp} (h : Sm n s) (k : Sm m t) : Sm (n + m) (sumS s t) := by
  unfold Sm sumS at *; dsimp only; omega
theorem SmA.add {n m : Int} {s t : Ar} (h : SmA n s) (k : SmA m t) : SmA (n + m) (sumA s t) := ⟨h.1.add k.1, h.2.add k.2⟩
theorem addM_small {n m : Int} {s t : Sp} (h : Sm n s) (k : Sm m t) (hn : 0 ≤ n) (hm : 0 ≤ m) (hnm : n + m ≤ 1152921504606846976) : addM s t = ⟨sumS s t, 0⟩ := by
  have hs := h.add k
  unfold addM endsM
  rw [if_pos (h.err2 k (by omega) (by omega))]
  unfold Sm sumS at *
  dsimp only at hs
  rw [fitsP_of (by omega), fitsP_of (by omega)]
  rfl
theorem addS_small {n m : Int} {s t : Sp} (h : Sm n s) (k : Sm m t) (hn : 0 ≤ n) (hm : 0 ≤ m) (hnm : n + m ≤ 1152921504606846976) : addS s t = sumS s t := by
  rw [addS, addM_small h k hn hm hnm]
theorem subM_small {n m : Int} {s t : Sp} (h : Sm n s) (k : Sm m t) (hn : 0 ≤ n) (hm : 0 ≤ m) (hnm : n + m ≤ 1152921504606846976) : subM s t = ⟨⟨s.lo - t.hi, s.hi - t.lo⟩, 0⟩ := by
  unfold subM endsM
  rw [if_pos (h.err2 k (by omega) (by omega))]
  unfold Sm at *
  rw [fitsP_of (by omega), fitsP_of (by omega)]
  rfl
theorem sumS_zero (s : Sp) : sumS ⟨0, 0⟩ s = s := by
  obtain ⟨a, b⟩ := s
  simp [sumS]
theorem sumS_assoc (a b c : Sp) : sumS (sumS a b) c = sumS a (sumS b c) := by simp only [sumS, Sp.mk.injEq]; omega
theorem sumS_comm (a b : Sp) : sumS a b = sumS b a := by simp only [sumS, Sp.mk.injEq]; omega
theorem sumA_zero (s : Ar) : sumA ⟨⟨0, 0⟩, ⟨0, 0⟩⟩ s = s := by
  obtain ⟨a, b⟩ := s
  simp [sumA, sumS_zero]
theorem sumA_assoc (a b c : Ar) : sumA (sumA a b) c = sumA a (sumA b c) := by simp only [sumA, sumS_assoc]
theorem sumA_comm (a b : Ar) : sumA a b = sumA b a := by unfold sumA; rw [sumS_comm a.x, sumS_comm a.y]

def edgeM (r : Int) : Int := max 1 (r * r)
def toM (p : Vec) (a : Ar) : Ar := ⟨subS ⟨p.x, p.x⟩ a.x, subS ⟨p.y, p.y⟩ a.y⟩
def qM (r : Int) (v : Ar) : Sp := ⟨max (addS (squareS v.x) (squareS v.y)).lo (edgeM r), max (addS (squareS v.x) (squareS v.y)).hi (edgeM r)⟩
def rM (q : Sp) : Sp := (rootsM q).s
def scQ (mu n d : Int) : Quo := if (mulDivM mu n d).e = 0 then mulDivM mu n d else if n < 0 then ⟨-1152921504606846976, -1152921504606846976, 0⟩ else ⟨1152921504606846976, 1152921504606846976, 0⟩
def scaledM (mu : Int) (x q : Sp) : Sp := (joinAll (cornQ (scQ mu) x q) ⟨1152921504606846976, -1152921504606846976⟩).s
def clampI (n : Int) : Int := min (max n (-1048576)) 1048576
def clampS (s : Sp) : Sp := ⟨clampI s.lo, clampI s.hi⟩
def towardM (mu : Int) (x q r : Sp) : Sp := clampS (quotS (scaledM mu x q) r)
def pullM (b : Body) (p : Vec) (a : Ar) : Ar := ⟨towardM b.mu (toM p a).x (qM b.radius (toM p a)) (rM (qM b.radius (toM p a))), towardM b.mu (toM p a).y (qM b.radius (toM p a)) (rM (qM b.radius (toM p a)))⟩
def partM (a b : Sp) : Sp := quotS (mulS a b) ⟨1000, 1000⟩
def minusS (s : Sp) : Sp := ⟨-s.hi, -s.lo⟩
def lightM (d : Drf) (sun : Ar) : Ar := ⟨minusS (partM d.light sun.x), minusS (partM d.light sun.y)⟩
def heatM (d : Drf) (sun : Ar) : Ar := ⟨minusS (partM d.heat sun.y), partM d.heat sun.x⟩
def gasM (d : Drf) : Ar := ⟨⟨-d.gas, d.gas⟩, ⟨-d.gas, d.gas⟩⟩
def pullsF (l : List Body) (home tick : Int) (a : Ar) : List Body → Nat → List (Nat × Ar)
  | [], _ => []
  | b :: r, k => (k, pullM b (atM l home k tick) a) :: pullsF l home tick a r (k + 1)
def pullsM (l : List Body) (home tick : Int) (a : Ar) : List (Nat × Ar) := pullsF l home tick a l 0
def sunM (l : List Body) (home tick : Int) (a : Ar) : Ar := pullM (l.getD 0 ⟨0, 0, []⟩) (atM l home 0 tick) a
def sumL (o : Ar) (ps : List (Nat × Ar)) : Ar := ps.foldl (fun o p => sumA o p.2) o
def overA (l : List Body) (home : Int) (d : Drf) (tick : Int) (a : Ar) : Ar :=
  sumL (sumA (sumA (gasM d) (lightM d (sunM l home tick a))) (heatM d (sunM l home tick a))) (pullsM l home tick a)
structure ArR where
  a : Ar
  e : Int
def overM (l : List Body) (home : Int) (d : Drf) (tick : Int) (a : Ar) : ArR :=
  if fAskErr l home d tick a = 0 then ⟨overA l home d tick a, 0⟩ else ⟨⟨⟨0, 0⟩, ⟨0, 0⟩⟩, fAskErr l home d tick a⟩

theorem joinAll_ok : ∀ (L : List Quo) (o : Sp), (∀ q ∈ L, QuoOk q) → -1152921504606846976 ≤ o.lo ∧ o.lo ≤ 1152921504606846976 ∧ -1152921504606846976 ≤ o.hi ∧ o.hi ≤ 1152921504606846976 → (o.lo ≤ o.hi ∨ L ≠ []) → (joinAll L o).e = 0 → Sm 1152921504606846976 (joinAll L o).s
  | [], o, _, h, h2, _ => by
    rcases h2 with h2 | h2
    · exact ⟨h.1, h2, h.2.2.2⟩
    · exact absurd rfl h2
  | q :: L, o, hL, h, h2, he => by
    have hq := hL q (by simp)
    rw [joinAll] at he ⊢
    by_cases h0 : q.e = 0
    · rw [if_pos h0] at he ⊢
      unfold QuoOk at hq
      refine joinAll_ok L _ (fun x hx => hL x (by simp [hx])) ?_ (.inl ?_) he
      · unfold joinQ; dsimp only; omega
      · unfold joinQ; dsimp only; omega
    · rw [if_neg h0] at he
      exact absurd he h0
theorem noSp_sm {n : Int} (e : Int) (hn : 0 ≤ n) : Sm n (noSp e).s := ⟨by dsimp only [noSp]; omega, Int.le_refl _, hn⟩
theorem joinAll_err : ∀ (L : List Quo) (o : Sp), (joinAll L o).e ≠ 0 → (joinAll L o).s = ⟨0, 0⟩
  | [], _, h => absurd rfl h
  | q :: L, o, h => by
    rw [joinAll] at h ⊢
    by_cases h0 : q.e = 0
    · rw [if_pos h0] at h ⊢
      exact joinAll_err L _ h
    · rw [if_neg h0]; rfl
theorem joinAll_sm {f : Int → Int → Quo} (hf : ∀ x y, QuoOk (f x y)) (a b : Sp) : Sm 1152921504606846976 (joinAll (cornQ f a b) ⟨1152921504606846976, -1152921504606846976⟩).s := by
  by_cases he : (joinAll (cornQ f a b) ⟨1152921504606846976, -1152921504606846976⟩).e = 0
  · exact joinAll_ok _ _ (cornQ_ok hf a b) ⟨by decide, by decide, by decide, by decide⟩ (.inr (by simp [cornQ, pairsL])) he
  · rw [joinAll_err _ _ he]; exact ⟨by dsimp only; omega, Int.le_refl _, by dsimp only; omega⟩
theorem mulS_sm (a b : Sp) : Sm 1152921504606846976 (mulS a b) := by
  unfold mulS mulM combM
  split
  · exact joinAll_sm (fun _ _ => mulDiv_ok _ _ _) a b
  · exact noSp_sm _ (by omega)
theorem quotS_sm (a b : Sp) : Sm 1152921504606846976 (quotS a b) := by
  unfold quotS quotM combM
  split
  · split
    · exact noSp_sm _ (by omega)
    · exact joinAll_sm (fun _ _ => mulDiv_ok _ _ _) a b
  · exact noSp_sm _ (by omega)
theorem scQ_ok (mu n d : Int) : QuoOk (scQ mu n d) := by
  unfold scQ
  split
  · exact mulDiv_ok _ _ _
  · split
    · left; exact ⟨rfl, by dsimp only; omega, by dsimp only; omega, by dsimp only; omega⟩
    · left; exact ⟨rfl, by dsimp only; omega, by dsimp only; omega, by dsimp only; omega⟩
theorem scQ_e (mu n d : Int) : (scQ mu n d).e = 0 := by
  unfold scQ
  split
  · assumption
  · split <;> rfl
theorem clamp_sm {n : Int} {s : Sp} (h : Sm n s) : Sm 1048576 (clampS s) := by
  unfold Sm clampS clampI at *; dsimp only; omega
theorem towardM_sm (mu : Int) (x q r : Sp) : Sm 1048576 (towardM mu x q r) := clamp_sm (quotS_sm _ _)
theorem pullM_sm (b : Body) (p : Vec) (a : Ar) : SmA 1048576 (pullM b p a) := ⟨towardM_sm _ _ _ _, towardM_sm _ _ _ _⟩
theorem quot1000 {x : Int} (h : -1152921504606846976 ≤ x ∧ x ≤ 1152921504606846976) : (quotF x 1000).e = 0 ∧ -1152921504606847 ≤ (quotF x 1000).lo ∧ (quotF x 1000).lo ≤ (quotF x 1000).hi ∧ (quotF x 1000).hi ≤ 1152921504606847 := by
  unfold quotF mulDivM quoM
  rw [show (1 : Int).natAbs = 1 from rfl, Nat.mul_one, show (1000 : Int).natAbs = 1000 from rfl]
  generalize hu : (if x.natAbs % 1000 = 0 then 0 else 1) = u
  have hu1 : u = 0 ∧ x.natAbs % 1000 = 0 ∨ u = 1 := by rw [← hu]; split <;> omega
  clear hu
  rw [if_neg (by omega)]
  split <;> dsimp only <;> omega
theorem quotS1000_sm {a : Sp} (h : Sm 1152921504606846976 a) : Sm 1152921504606847 (quotS a ⟨1000, 1000⟩) := by
  have h1 := quot1000 (x := a.lo) ⟨h.1, by have := h.2; omega⟩
  have h2 := quot1000 (x := a.hi) ⟨by have := h.1; have := h.2; omega, h.2.2⟩
  unfold quotS quotM combM
  rw [if_pos (by rw [sp2Err, if_pos (h.err (by omega))]; rfl), if_neg (by simp [within]), if_pos (by rw [sp2Err, if_pos (h.err (by omega))]; rfl)]
  simp only [cornQ, pairsL, List.map_cons, List.map_nil, joinAll, h1.1, h2.1, if_true, joinQ]
  unfold Sm; dsimp only; omega
theorem partM_sm (a b : Sp) : Sm 1152921504606847 (partM a b) := quotS1000_sm (mulS_sm a b)
theorem minusS_sm {n : Int} {s : Sp} (h : Sm n s) : Sm n (minusS s) := by unfold Sm minusS at *; dsimp only; omega
theorem lightM_sm (d : Drf) (s : Ar) : SmA 1152921504606847 (lightM d s) := ⟨minusS_sm (partM_sm _ _), minusS_sm (partM_sm _ _)⟩
theorem heatM_sm (d : Drf) (s : Ar) : SmA 1152921504606847 (heatM d s) := ⟨minusS_sm (partM_sm _ _), partM_sm _ _⟩
theorem driftErr_ok {d : Drf} (h : driftErr d = 0) : Sm 1000 d.light ∧ Sm 1000 d.heat ∧ 0 ≤ d.light.lo ∧ 0 ≤ d.gas ∧ d.gas ≤ 1000 := by
  unfold driftErr at h
  by_cases h1 : boundErr d.light 0 1000 = 0
  · rw [if_pos h1] at h
    by_cases h2 : boundErr d.heat (-1000) 1000 = 0
    · rw [if_pos h2] at h
      have h1 := boundErr_ok.1 h1
      have h2 := boundErr_ok.1 h2
      unfold within at h
      by_cases h3 : (decide (0 ≤ d.gas) && decide (d.gas ≤ 1000)) = true
      · simp only [Bool.and_eq_true, decide_eq_true_eq] at h3
        unfold Sm; omega
      · rw [if_neg h3] at h; cases h
    · rw [if_neg h2] at h; exact absurd h h2
  · rw [if_neg h1] at h; exact absurd h h1
theorem gasM_sm {d : Drf} (h : driftErr d = 0) : SmA 1000 (gasM d) := by
  have := driftErr_ok h
  unfold SmA Sm gasM; dsimp only; omega
theorem pullsF_len (l : List Body) (home tick : Int) (a : Ar) : ∀ (r : List Body) (k : Nat), (pullsF l home tick a r k).length = r.length
  | [], _ => rfl
  | b :: r, k => by rw [pullsF, List.length_cons, List.length_cons, pullsF_len l home tick a r (k + 1)]
theorem pullsF_sm (l : List Body) (home tick : Int) (a : Ar) : ∀ (r : List Body) (k : Nat), ∀ p ∈ pullsF l home tick a r k, SmA 1048576 p.2
  | [], _, p, hp => by cases hp
  | b :: r, k, p, hp => by
    rcases List.mem_cons.1 hp with rfl | hp
    · exact pullM_sm _ _ _
    · exact pullsF_sm l home tick a r (k + 1) p hp
theorem pullsF_ne (l : List Body) (home tick : Int) (a : Ar) : ∀ (r : List Body) (k : Nat), ∀ p ∈ pullsF l home tick a r k, k ≤ p.1
  | [], _, p, hp => by cases hp
  | b :: r, k, p, hp => by
    rcases List.mem_cons.1 hp with rfl | hp
    · exact Nat.le_refl _
    · have := pullsF_ne l home tick a r (k + 1) p hp; omega
theorem sumL_sm {n : Int} (hn : 0 ≤ n) : ∀ (ps : List (Nat × Ar)) (o : Ar) (m : Int), SmA m o → (∀ p ∈ ps, SmA n p.2) → SmA (m + n * ps.length) (sumL o ps)
  | [], o, m, h, _ => by simpa [sumL] using h
  | p :: ps, o, m, h, hp => by
    have := sumL_sm hn ps (sumA o p.2) (m + n) (h.add (hp p (by simp))) fun q hq => hp q (by simp [hq])
    rw [List.length_cons]
    have e : m + n * ((ps.length + 1 : Nat) : Int) = m + n + n * (ps.length : Int) := by push_cast; rw [Int.mul_add, Int.mul_one]; omega
    rw [e]; exact this
def accP (d : Drf) (o : Ar) (p : Nat × Ar) : Ar := if p.1 = 0 then sumA (sumA (sumA o p.2) (lightM d p.2)) (heatM d p.2) else sumA o p.2
theorem acc_ne (d : Drf) : ∀ (ps : List (Nat × Ar)) (o : Ar), (∀ p ∈ ps, p.1 ≠ 0) → ps.foldl (accP d) o = sumL o ps
  | [], _, _ => rfl
  | p :: ps, o, h => by
    show ps.foldl (accP d) (accP d o p) = sumL (sumA o p.2) ps
    rw [accP, if_neg (h p (by simp))]
    exact acc_ne d ps _ fun q hq => h q (by simp [hq])
theorem over_acc {l : List Body} (home : Int) (d : Drf) (tick : Int) (a : Ar) (hl : l ≠ []) : (pullsM l home tick a).foldl (accP d) (gasM d) = overA l home d tick a := by
  obtain ⟨b, r, rfl⟩ := List.exists_cons_of_ne_nil hl
  unfold overA pullsM sunM
  rw [pullsF, List.foldl_cons, accP, if_pos rfl, acc_ne d _ _ fun p hp => by have := pullsF_ne _ _ _ _ _ _ p hp; omega]
  show sumL (sumA (sumA (sumA (gasM d) (pullM b _ a)) (lightM d (pullM b _ a))) (heatM d (pullM b _ a))) _ = sumL (sumA (sumA (sumA (gasM d) (lightM d (pullM b _ a))) (heatM d (pullM b _ a))) (pullM b _ a)) _
  congr 1
  generalize pullM b (atM (b :: r) home ((0 : Nat) : Int) tick) a = P
  generalize lightM d P = L
  generalize heatM d P = H
  rw [sumA_assoc (gasM d) P L, sumA_comm P L, ← sumA_assoc, sumA_assoc _ P H, sumA_comm P H, ← sumA_assoc]
theorem acc_sm (d : Drf) : ∀ (ps : List (Nat × Ar)) (o : Ar) (m : Int), SmA m o → (∀ p ∈ ps, SmA 1048576 p.2) → SmA (m + 2305843010262270 * ps.length) (ps.foldl (accP d) o)
  | [], o, m, h, _ => by simpa using h
  | p :: ps, o, m, h, hp => by
    have h1 : SmA (m + 2305843010262270) (accP d o p) := by
      have hs := hp p (by simp)
      unfold accP
      split
      · exact (((h.add hs).add (lightM_sm d p.2)).add (heatM_sm d p.2)).mono (by omega)
      · exact (h.add hs).mono (by omega)
    have := acc_sm d ps _ _ h1 fun q hq => hp q (by simp [hq])
    rw [List.length_cons, List.foldl_cons]
    exact this.mono (by push_cast; omega)
end Go.Proofs.YtiladlangkjoiaaGreat

namespace Go.Proofs.YtiladlangkjoiaaGreat
open Go.RowKit

def Sub (s t : Sp) : Prop := t.lo ≤ s.lo ∧ s.lo ≤ s.hi ∧ s.hi ≤ t.hi
def SubA (a b : Ar) : Prop := Sub a.x b.x ∧ Sub a.y b.y

def fl (z c : Int) : Int := z / c
def ce (z c : Int) : Int := -((-z) / c)
theorem fl_nat (n d : Nat) : fl n d = ((n / d : Nat) : Int) := by unfold fl; rw [Int.natCast_ediv]
theorem ce_nat (n d : Nat) (hd : 0 < d) : ce n d = ((n / d + (if n % d = 0 then 0 else 1) : Nat) : Int) := by
  unfold ce
  have h1 := Nat.div_add_mod n d
  have h2 := Nat.mod_lt n hd
  have hd' : (0 : Int) < d := by omega
  by_cases h : n % d = 0
  · rw [if_pos h]
    rw [h] at h1
    have : (-(n : Int)) = (d : Int) * (-((n / d : Nat) : Int)) := by rw [Int.mul_neg, ← Int.natCast_mul]; omega
    rw [this, Int.mul_ediv_cancel_left _ (by omega)]
    omega
  · rw [if_neg h]
    have e : (-(n : Int)) = ((d : Int) - ((n % d : Nat) : Int)) + (d : Int) * (-((n / d + 1 : Nat) : Int)) := by
      rw [Int.mul_neg, ← Int.natCast_mul, Nat.mul_add, Nat.mul_one]; omega
    rw [e, Int.add_mul_ediv_left _ _ (by omega), Int.ediv_eq_zero_of_lt (by omega) (by omega)]
    omega
theorem fl_neg (z c : Int) : fl (-z) c = -(ce z c) := by unfold fl ce; omega
theorem ce_neg (z c : Int) : ce (-z) c = -(fl z c) := by unfold fl ce; rw [Int.neg_neg]
theorem fl_le_ce {z c : Int} (hc : 0 < c) : fl z c ≤ ce z c := by
  unfold fl ce
  have h1 := Int.mul_ediv_add_emod z c
  have h2 := Int.mul_ediv_add_emod (-z) c
  have h3 := Int.emod_nonneg z (show c ≠ 0 by omega)
  have h4 := Int.emod_nonneg (-z) (show c ≠ 0 by omega)
  have h5 : c * (z / c + (-z) / c) ≤ 0 := by rw [Int.mul_add]; omega
  rcases Int.lt_or_le 0 (z / c + (-z) / c) with h | h
  · have := Int.mul_le_mul_of_nonneg_left (show 1 ≤ z / c + (-z) / c by omega) (show 0 ≤ c by omega)
    omega
  · omega
theorem mulDiv_pos {x y c : Int} (hc : 0 < c) : mulDivM x y c = if -1152921504606846976 ≤ fl (x * y) c ∧ ce (x * y) c ≤ 1152921504606846976 then ⟨fl (x * y) c, ce (x * y) c, 0⟩ else ⟨0, 0, 14⟩ := by
  have hle := fl_le_ce (z := x * y) hc
  unfold mulDivM quoM
  rw [← Int.natAbs_mul, show decide (c < 0) = false by simp; omega, Bool.bne_false]
  obtain ⟨d, rfl⟩ : ∃ d : Nat, c = d := ⟨c.toNat, by omega⟩
  rw [Int.natAbs_natCast]
  have hd : 0 < d := by omega
  have sgn : (0 ≤ x * y ∧ ((decide (x < 0) != decide (y < 0)) = false ∨ x * y = 0)) ∨ (x * y ≤ 0 ∧ (decide (x < 0) != decide (y < 0)) = true) := by
    by_cases hx : x < 0 <;> by_cases hy : y < 0
    · left; exact ⟨Int.le_of_lt (Int.mul_pos_of_neg_of_neg hx hy), .inl (by simp [hx, hy])⟩
    · right; exact ⟨Int.mul_nonpos_of_nonpos_of_nonneg (by omega) (by omega), by simp [hx, hy]⟩
    · right; exact ⟨Int.mul_nonpos_of_nonneg_of_nonpos (by omega) (by omega), by simp [hx, hy]⟩
    · left; exact ⟨Int.mul_nonneg (by omega) (by omega), .inl (by simp [hx, hy])⟩
  generalize x * y = z at *
  generalize (decide (x < 0) != decide (y < 0)) = neg at *
  rcases sgn with ⟨h0, hs⟩ | ⟨h0, hs⟩
  · obtain ⟨n, rfl⟩ : ∃ n : Nat, z = n := ⟨z.toNat, by omega⟩
    rw [Int.natAbs_natCast]
    rcases hs with rfl | hs
    · rw [fl_nat, ce_nat _ _ hd] at *
      simp only [Bool.false_eq_true, if_false]
      generalize n / d + (if n % d = 0 then 0 else 1) = up at *
      generalize n / d = q at *
      by_cases hb : 1152921504606846976 < up
      · rw [if_pos hb, if_neg (by omega)]
      · rw [if_neg hb, if_pos (by omega)]
    · obtain rfl : n = 0 := by omega
      simp [fl, ce]
  · obtain ⟨n, rfl⟩ : ∃ n : Nat, z = -(n : Int) := ⟨(-z).toNat, by omega⟩
    rw [fl_neg, ce_neg, fl_nat, ce_nat _ _ hd] at hle
    rw [Int.natAbs_neg, Int.natAbs_natCast, fl_neg, ce_neg, fl_nat, ce_nat _ _ hd, hs]
    simp only [if_true]
    generalize n / d + (if n % d = 0 then 0 else 1) = up at *
    generalize n / d = q at *
    by_cases hb : 1152921504606846976 < up
    · rw [if_pos hb, if_neg (by omega)]
    · rw [if_neg hb, if_pos (by omega)]
def Mono (g : Int → Int) (l h : Int) : Prop := (∀ a b, l ≤ a → a ≤ b → b ≤ h → g a ≤ g b) ∨ (∀ a b, l ≤ a → a ≤ b → b ≤ h → g b ≤ g a)
theorem Mono.least {g : Int → Int} {l h n : Int} (m : Mono g l h) (h1 : l ≤ n) (h2 : n ≤ h) : min (g l) (g h) ≤ g n ∧ g n ≤ max (g l) (g h) := by
  rcases m with m | m
  · have a := m l n (Int.le_refl _) h1 h2
    have b := m n h h1 h2 (Int.le_refl _)
    omega
  · have a := m l n (Int.le_refl _) h1 h2
    have b := m n h h1 h2 (Int.le_refl _)
    omega
structure Mon2 (f : Int → Int → Quo) (a b : Sp) : Prop where
  e : ∀ x y, a.lo ≤ x → x ≤ a.hi → b.lo ≤ y → y ≤ b.hi → (f x y).e = 0
  ok : ∀ x y, QuoOk (f x y)
  x1 : ∀ y, b.lo ≤ y → y ≤ b.hi → Mono (fun x => (f x y).lo) a.lo a.hi ∧ Mono (fun x => (f x y).hi) a.lo a.hi
  y1 : ∀ x, a.lo ≤ x → x ≤ a.hi → Mono (fun y => (f x y).lo) b.lo b.hi ∧ Mono (fun y => (f x y).hi) b.lo b.hi
theorem joinAll_four {q1 q2 q3 q4 : Quo} (h1 : q1.e = 0) (h2 : q2.e = 0) (h3 : q3.e = 0) (h4 : q4.e = 0) (k1 : QuoOk q1) :
    joinAll [q1, q2, q3, q4] ⟨1152921504606846976, -1152921504606846976⟩ = ⟨⟨min (min (min q1.lo q2.lo) q3.lo) q4.lo, max (max (max q1.hi q2.hi) q3.hi) q4.hi⟩, 0⟩ := by
  simp only [joinAll, h1, h2, h3, h4, if_true, joinQ]
  unfold QuoOk at k1
  congr 2 <;> omega
theorem Mon2.corners {f : Int → Int → Quo} {a b : Sp} (m : Mon2 f a b) (ha : a.lo ≤ a.hi) (hb : b.lo ≤ b.hi) :
    joinAll (cornQ f a b) ⟨1152921504606846976, -1152921504606846976⟩ = ⟨⟨min (min (min (f a.lo b.lo).lo (f a.lo b.hi).lo) (f a.hi b.lo).lo) (f a.hi b.hi).lo, max (max (max (f a.lo b.lo).hi (f a.lo b.hi).hi) (f a.hi b.lo).hi) (f a.hi b.hi).hi⟩, 0⟩ := by
  refine joinAll_four (m.e _ _ ?_ ?_ ?_ ?_) (m.e _ _ ?_ ?_ ?_ ?_) (m.e _ _ ?_ ?_ ?_ ?_) (m.e _ _ ?_ ?_ ?_ ?_) (m.ok _ _) <;> omega
theorem Mon2.has {f : Int → Int → Quo} {a b : Sp} (m : Mon2 f a b) {x y : Int} (h1 : a.lo ≤ x) (h2 : x ≤ a.hi) (h3 : b.lo ≤ y) (h4 : y ≤ b.hi) :
    (joinAll (cornQ f a b) ⟨1152921504606846976, -1152921504606846976⟩).s.lo ≤ (f x y).lo ∧ (f x y).hi ≤ (joinAll (cornQ f a b) ⟨1152921504606846976, -1152921504606846976⟩).s.hi := by
  rw [m.corners (by omega) (by omega)]
  dsimp only
  have p1 := (m.x1 y h3 h4).1.least h1 h2
  have p2 := (m.x1 y h3 h4).2.least h1 h2
  have p3 := (m.y1 a.lo (Int.le_refl _) (by omega)).1.least h3 h4
  have p4 := (m.y1 a.lo (Int.le_refl _) (by omega)).2.least h3 h4
  have p5 := (m.y1 a.hi (by omega) (Int.le_refl _)).1.least h3 h4
  have p6 := (m.y1 a.hi (by omega) (Int.le_refl _)).2.least h3 h4
  omega
theorem Mono.part {g : Int → Int} {l h l' h' : Int} (m : Mono g l h) (h1 : l ≤ l') (h2 : h' ≤ h) : Mono g l' h' := by
  rcases m with m | m
  · left; intro a b q1 q2 q3; exact m a b (by omega) q2 (by omega)
  · right; intro a b q1 q2 q3; exact m a b (by omega) q2 (by omega)
theorem Mon2.part {f : Int → Int → Quo} {a b a' b' : Sp} (m : Mon2 f a b) (ha : Sub a' a) (hb : Sub b' b) : Mon2 f a' b' := by
  obtain ⟨a1, a2, a3⟩ := ha
  obtain ⟨b1, b2, b3⟩ := hb
  exact ⟨fun x y q1 q2 q3 q4 => m.e x y (by omega) (by omega) (by omega) (by omega), m.ok, fun y q1 q2 => ⟨(m.x1 y (by omega) (by omega)).1.part a1 a3, (m.x1 y (by omega) (by omega)).2.part a1 a3⟩, fun x q1 q2 => ⟨(m.y1 x (by omega) (by omega)).1.part b1 b3, (m.y1 x (by omega) (by omega)).2.part b1 b3⟩⟩
theorem Mon2.sub {f : Int → Int → Quo} {a b a' b' : Sp} (m : Mon2 f a b) (ha : Sub a' a) (hb : Sub b' b) :
    Sub (joinAll (cornQ f a' b') ⟨1152921504606846976, -1152921504606846976⟩).s (joinAll (cornQ f a b) ⟨1152921504606846976, -1152921504606846976⟩).s := by
  have c1 := joinAll_sm m.ok a' b'
  have m' := m.part ha hb
  obtain ⟨a1, a2, a3⟩ := ha
  obtain ⟨b1, b2, b3⟩ := hb
  have p1 := m.has (x := a'.lo) (y := b'.lo) (by omega) (by omega) (by omega) (by omega)
  have p2 := m.has (x := a'.lo) (y := b'.hi) (by omega) (by omega) (by omega) (by omega)
  have p3 := m.has (x := a'.hi) (y := b'.lo) (by omega) (by omega) (by omega) (by omega)
  have p4 := m.has (x := a'.hi) (y := b'.hi) (by omega) (by omega) (by omega) (by omega)
  have e := m'.corners a2 b2
  rw [e] at c1 ⊢
  generalize (joinAll (cornQ f a b) ⟨1152921504606846976, -1152921504606846976⟩).s = R at *
  unfold Sub
  have := c1.2.1
  dsimp only at *
  omega

theorem fl_mono {z z' c : Int} (hc : 0 < c) (h : z ≤ z') : fl z c ≤ fl z' c := Int.ediv_le_ediv hc h
theorem fl_down {z c c' : Int} (hz : 0 ≤ z) (hc : 0 < c) (h : c ≤ c') : fl z c' ≤ fl z c := by
  unfold fl
  rw [Int.le_ediv_iff_mul_le hc]
  have h0 : 0 ≤ z / c' := Int.ediv_nonneg hz (by omega)
  have h1 := Int.mul_le_mul_of_nonneg_left h h0
  have h2 := Int.ediv_mul_le z (show c' ≠ 0 by omega)
  omega
theorem fl_up {z c c' : Int} (hz : z ≤ 0) (hc : 0 < c) (h : c ≤ c') : fl z c ≤ fl z c' := by
  unfold fl
  rw [Int.le_ediv_iff_mul_le (by omega)]
  have h0 : z / c ≤ 0 := by
    have := Int.ediv_le_ediv hc hz
    rw [Int.zero_ediv] at this; exact this
  have h1 := Int.mul_le_mul_of_nonpos_left h0 h
  have h2 := Int.ediv_mul_le z (show c ≠ 0 by omega)
  omega
theorem ce_mono {z z' c : Int} (hc : 0 < c) (h : z ≤ z') : ce z c ≤ ce z' c := by
  have := fl_mono (z := -z') (z' := -z) hc (by omega)
  unfold ce; unfold fl at this; omega
theorem ce_down {z c c' : Int} (hz : 0 ≤ z) (hc : 0 < c) (h : c ≤ c') : ce z c' ≤ ce z c := by
  have := fl_up (z := -z) (by omega) hc h
  unfold ce; unfold fl at this; omega
theorem ce_up {z c c' : Int} (hz : z ≤ 0) (hc : 0 < c) (h : c ≤ c') : ce z c ≤ ce z c' := by
  have := fl_down (z := -z) (by omega) hc h
  unfold ce; unfold fl at this; omega
theorem fl_one (z : Int) : fl z 1 = z := Int.ediv_one z
theorem ce_one (z : Int) : ce z 1 = z := by unfold ce; rw [Int.ediv_one]; omega
theorem quot_bd {x y : Int} (h1 : -1152921504606846976 ≤ x) (h2 : x ≤ 1152921504606846976) (hy : 0 < y) : -1152921504606846976 ≤ fl x y ∧ ce x y ≤ 1152921504606846976 := by
  rcases Int.le_total 0 x with h | h
  · have a := ce_down h (show (0 : Int) < 1 by omega) (show 1 ≤ y by omega)
    rw [ce_one] at a
    have b : 0 ≤ fl x y := Int.ediv_nonneg h (by omega)
    omega
  · have a := fl_up h (show (0 : Int) < 1 by omega) (show 1 ≤ y by omega)
    rw [fl_one] at a
    have b : ce x y ≤ 0 := by have := Int.ediv_nonneg (show 0 ≤ -x by omega) (show 0 ≤ y by omega); unfold ce; omega
    omega
theorem quotF_pos {x y : Int} (h1 : -1152921504606846976 ≤ x) (h2 : x ≤ 1152921504606846976) (hy : 0 < y) : quotF x y = ⟨fl x y, ce x y, 0⟩ := by
  unfold quotF
  rw [mulDiv_pos hy, Int.mul_one, if_pos (quot_bd h1 h2 hy)]
theorem mon2_quot {a b : Sp} (ha : Sm 1152921504606846976 a) (hb : 0 < b.lo) : Mon2 quotF a b := by
  obtain ⟨h1, h2, h3⟩ := ha
  refine ⟨fun x y q1 q2 q3 q4 => by rw [quotF_pos (by omega) (by omega) (by omega)], fun _ _ => mulDiv_ok _ _ _, fun y q1 q2 => ⟨.inl fun s t k1 k2 k3 => ?_, .inl fun s t k1 k2 k3 => ?_⟩, fun x q1 q2 => ?_⟩
  · dsimp only; rw [quotF_pos (by omega) (by omega) (by omega), quotF_pos (by omega) (by omega) (by omega)]; exact fl_mono (by omega) k2
  · dsimp only; rw [quotF_pos (by omega) (by omega) (by omega), quotF_pos (by omega) (by omega) (by omega)]; exact ce_mono (by omega) k2
  · rcases Int.le_total 0 x with h | h
    · refine ⟨.inr fun s t k1 k2 k3 => ?_, .inr fun s t k1 k2 k3 => ?_⟩
      · dsimp only; rw [quotF_pos (by omega) (by omega) (by omega), quotF_pos (by omega) (by omega) (by omega)]; exact fl_down h (by omega) k2
      · dsimp only; rw [quotF_pos (by omega) (by omega) (by omega), quotF_pos (by omega) (by omega) (by omega)]; exact ce_down h (by omega) k2
    · refine ⟨.inl fun s t k1 k2 k3 => ?_, .inl fun s t k1 k2 k3 => ?_⟩
      · dsimp only; rw [quotF_pos (by omega) (by omega) (by omega), quotF_pos (by omega) (by omega) (by omega)]; exact fl_up h (by omega) k2
      · dsimp only; rw [quotF_pos (by omega) (by omega) (by omega), quotF_pos (by omega) (by omega) (by omega)]; exact ce_up h (by omega) k2
theorem mul_bd2 {n m x y : Int} (hm : 0 ≤ m) (h1 : -n ≤ x ∧ x ≤ n) (h2 : -m ≤ y ∧ y ≤ m) : -(n * m) ≤ x * y ∧ x * y ≤ n * m := by
  have a : x.natAbs ≤ n.toNat := by omega
  have b : y.natAbs ≤ m.toNat := by omega
  have c := Nat.mul_le_mul a b
  rw [← Int.natAbs_mul] at c
  have e : ((n.toNat * m.toNat : Nat) : Int) = n * m := by rw [Int.natCast_mul, Int.toNat_of_nonneg (by omega), Int.toNat_of_nonneg hm]
  omega
theorem mulF_in {n m x y : Int} (hm : 0 ≤ m) (h1 : -n ≤ x ∧ x ≤ n) (h2 : -m ≤ y ∧ y ≤ m) (hb : n * m ≤ 1152921504606846976) : mulF x y = ⟨x * y, x * y, 0⟩ := by
  have := mul_bd2 hm h1 h2
  rw [mulF_eq, if_neg (by omega)]
theorem mon2_mul {n m : Int} {a b : Sp} (ha : Sm n a) (hb : Sm m b) (hm : 0 ≤ m) (hnm : n * m ≤ 1152921504606846976) : Mon2 mulF a b := by
  obtain ⟨a1, a2, a3⟩ := ha
  obtain ⟨b1, b2, b3⟩ := hb
  have E : ∀ x y, a.lo ≤ x → x ≤ a.hi → b.lo ≤ y → y ≤ b.hi → mulF x y = ⟨x * y, x * y, 0⟩ := fun x y q1 q2 q3 q4 => mulF_in hm ⟨by omega, by omega⟩ ⟨by omega, by omega⟩ hnm
  refine ⟨fun x y q1 q2 q3 q4 => by rw [E x y q1 q2 q3 q4], fun _ _ => mulDiv_ok _ _ _, fun y q1 q2 => ?_, fun x q1 q2 => ?_⟩
  · rcases Int.le_total 0 y with h | h
    · refine ⟨.inl fun s t k1 k2 k3 => ?_, .inl fun s t k1 k2 k3 => ?_⟩
      all_goals dsimp only; rw [E _ _ (by omega) (by omega) q1 q2, E _ _ (by omega) (by omega) q1 q2]; exact Int.mul_le_mul_of_nonneg_right k2 h
    · refine ⟨.inr fun s t k1 k2 k3 => ?_, .inr fun s t k1 k2 k3 => ?_⟩
      all_goals dsimp only; rw [E _ _ (by omega) (by omega) q1 q2, E _ _ (by omega) (by omega) q1 q2]; exact Int.mul_le_mul_of_nonpos_right k2 h
  · rcases Int.le_total 0 x with h | h
    · refine ⟨.inl fun s t k1 k2 k3 => ?_, .inl fun s t k1 k2 k3 => ?_⟩
      all_goals dsimp only; rw [E _ _ q1 q2 (by omega) (by omega), E _ _ q1 q2 (by omega) (by omega)]; exact Int.mul_le_mul_of_nonneg_left k2 h
    · refine ⟨.inr fun s t k1 k2 k3 => ?_, .inr fun s t k1 k2 k3 => ?_⟩
      all_goals dsimp only; rw [E _ _ q1 q2 (by omega) (by omega), E _ _ q1 q2 (by omega) (by omega)]; exact Int.mul_le_mul_of_nonpos_left h k2

theorem mulS_eq {n m : Int} {a b : Sp} (ha : Sm n a) (hb : Sm m b) (hn : n ≤ 1152921504606846976) (hm : m ≤ 1152921504606846976) : mulS a b = (joinAll (cornQ mulF a b) ⟨1152921504606846976, -1152921504606846976⟩).s := by
  unfold mulS mulM combM
  rw [if_pos (ha.err2 hb hn hm)]
theorem quotS_eq {m : Int} {a b : Sp} (ha : Sm 1152921504606846976 a) (hb : Sm m b) (hm : m ≤ 1152921504606846976) (h0 : 0 < b.lo) : quotS a b = (joinAll (cornQ quotF a b) ⟨1152921504606846976, -1152921504606846976⟩).s := by
  unfold quotS quotM combM
  rw [if_pos (ha.err2 hb (by omega) hm), if_neg (by simp [within]; omega), if_pos (ha.err2 hb (by omega) hm)]
theorem squareS_eq {n : Int} {a : Sp} (ha : Sm n a) (hn : n ≤ 1073741824) : squareS a = ⟨lowM a * lowM a, highM a * highM a⟩ ∧ 0 ≤ lowM a ∧ lowM a ≤ highM a ∧ highM a ≤ n := by
  have hb : 0 ≤ lowM a ∧ lowM a ≤ highM a ∧ highM a ≤ n := by unfold Sm at ha; unfold lowM highM; omega
  refine ⟨?_, hb⟩
  unfold squareS squareM
  rw [if_pos (ha.err (by omega)), if_neg (by omega)]
  generalize lowM a = l at *
  generalize highM a = u at *
  obtain ⟨h1, h2, h3⟩ := hb
  have m1 : 0 ≤ l * l := Int.mul_nonneg h1 h1
  have m2 : l * l ≤ u * u := Int.mul_le_mul h2 h2 h1 (by omega)
  have m3 : u * u ≤ 1073741824 * 1073741824 := Int.mul_le_mul (by omega) (by omega) (by omega) (by omega)
  unfold endsM
  rw [fitsP_of (by omega), fitsP_of (by omega)]
  rfl
theorem squareS_sm {n : Int} {a : Sp} (ha : Sm n a) (hn : n ≤ 1073741824) : 0 ≤ (squareS a).lo ∧ (squareS a).lo ≤ (squareS a).hi ∧ (squareS a).hi ≤ n * n := by
  obtain ⟨e, h1, h2, h3⟩ := squareS_eq ha hn
  rw [e]
  exact ⟨Int.mul_nonneg h1 h1, Int.mul_le_mul h2 h2 h1 (by omega), Int.mul_le_mul h3 h3 (by omega) (by omega)⟩
theorem rootI_mono {a b : Int} (h0 : 0 ≤ a) (h : a ≤ b) (hb : b ≤ 1152921504606846976) : 0 ≤ rootI a ∧ rootI a ≤ rootI b ∧ upM a ≤ upM b ∧ rootI b ≤ upM b ∧ upM b ≤ rootI b + 1 ∧ rootI b ≤ 1073741824 := by
  unfold upM rootI
  rw [if_neg (by omega), if_neg (by omega)]
  obtain ⟨n, rfl⟩ : ∃ n : Nat, a = n := ⟨a.toNat, by omega⟩
  obtain ⟨m, rfl⟩ : ∃ n : Nat, b = n := ⟨b.toNat, by omega⟩
  rw [Int.toNat_natCast, Int.toNat_natCast]
  have s1 := rootN_spec (n := n) (by omega)
  have s2 := rootN_spec (n := m) (by omega)
  have s3 : rootN n ≤ rootN m := rootN_le (by omega) (by omega)
  have s4 : rootN m ≤ 1073741824 := rootN_le (by omega) (by omega)
  generalize rootN n = p at *
  generalize rootN m = q at *
  have e1 : (p : Int) * p = ((p * p : Nat) : Int) := (Int.natCast_mul p p).symm
  have e2 : (q : Int) * q = ((q * q : Nat) : Int) := (Int.natCast_mul q q).symm
  rw [e1, e2]
  have s5 : p = q ∨ p + 1 ≤ q := by omega
  rcases s5 with rfl | s5
  · refine ⟨by omega, by omega, ?_, ?_, ?_, by omega⟩ <;> split <;> (try split) <;> omega
  · refine ⟨by omega, by omega, ?_, ?_, ?_, by omega⟩ <;> split <;> (try split) <;> omega
theorem rootI_pos {a : Int} (h0 : 1 ≤ a) (hb : a ≤ 1152921504606846976) : 1 ≤ rootI a := by
  have := rootI_mono (a := 1) (b := a) (by omega) h0 hb
  have e : rootI 1 = 1 := by
    unfold rootI
    rw [if_neg (by omega), show (1 : Int).toNat = 1 from rfl]
    have s1 := rootN_spec (n := 1) (by omega)
    generalize rootN 1 = r at *
    rcases Nat.lt_or_ge r 2 with h | h
    · have : r = 0 ∨ r = 1 := by omega
      rcases this with rfl | rfl
      · omega
      · rfl
    · have := Nat.mul_le_mul h h
      omega
  omega
theorem rM_eq {q : Sp} (h1 : 1 ≤ q.lo) (h2 : q.lo ≤ q.hi) (h3 : q.hi ≤ 1152921504606846976) : rM q = ⟨rootI q.lo, upM q.hi⟩ := by
  unfold rM rootsM
  rw [if_pos (spErr_ok.2 ⟨by omega, h2, h3⟩), if_neg (by omega)]
theorem rM_sm {q : Sp} (h1 : 1 ≤ q.lo) (h2 : q.lo ≤ q.hi) (h3 : q.hi ≤ 1152921504606846976) : 1 ≤ (rM q).lo ∧ Sm 1073741825 (rM q) := by
  rw [rM_eq h1 h2 h3]
  have a := rootI_mono (a := q.lo) (b := q.hi) (by omega) h2 h3
  have b := rootI_pos h1 (by omega)
  unfold Sm; dsimp only; omega
def placeP (p : Vec) : Prop := (-33554432 ≤ p.x ∧ p.x ≤ 33554432) ∧ -33554432 ≤ p.y ∧ p.y ≤ 33554432
theorem toM_eq {p : Vec} {a : Ar} (hp : placeP p) (ha : SmA 33554432 a) : toM p a = ⟨⟨p.x - a.x.hi, p.x - a.x.lo⟩, ⟨p.y - a.y.hi, p.y - a.y.lo⟩⟩ := by
  unfold toM subS
  unfold placeP at hp
  rw [subM_small (n := 33554432) (s := ⟨p.x, p.x⟩) (by unfold Sm; dsimp only; omega) ha.1 (by omega) (by omega) (by omega), subM_small (n := 33554432) (s := ⟨p.y, p.y⟩) (by unfold Sm; dsimp only; omega) ha.2 (by omega) (by omega) (by omega)]
theorem toM_sm {p : Vec} {a : Ar} (hp : placeP p) (ha : SmA 33554432 a) : SmA 67108864 (toM p a) := by
  rw [toM_eq hp ha]; unfold SmA Sm at *; unfold placeP at hp; dsimp only; omega
theorem qM_eq {r : Int} {v : Ar} (hv : SmA 67108864 v) : qM r v = ⟨max ((squareS v.x).lo + (squareS v.y).lo) (edgeM r), max ((squareS v.x).hi + (squareS v.y).hi) (edgeM r)⟩ := by
  have h1 := squareS_sm hv.1 (by omega)
  have h2 := squareS_sm hv.2 (by omega)
  unfold qM
  rw [addS_small (n := 67108864 * 67108864) (m := 67108864 * 67108864) (by unfold Sm; omega) (by unfold Sm; omega) (by omega) (by omega) (by omega)]
  rfl
theorem edge_bd {r : Int} (h : 0 ≤ r ∧ r ≤ 1048576) : 1 ≤ edgeM r ∧ edgeM r ≤ 1099511627776 := by
  have : r * r ≤ 1048576 * 1048576 := Int.mul_le_mul h.2 h.2 h.1 (by omega)
  unfold edgeM; omega
theorem qM_sm {r : Int} {v : Ar} (hr : 0 ≤ r ∧ r ≤ 1048576) (hv : SmA 67108864 v) : 1 ≤ (qM r v).lo ∧ (qM r v).lo ≤ (qM r v).hi ∧ (qM r v).hi ≤ 9007199254740992 := by
  have h1 := squareS_sm hv.1 (by omega)
  have h2 := squareS_sm hv.2 (by omega)
  have h3 := edge_bd hr
  rw [qM_eq hv]; dsimp only; omega
end Go.Proofs.YtiladlangkjoiaaGreat

namespace Go.Proofs.YtiladlangkjoiaaGreat
open Go.RowKit

structure Bx where
  x : Sp
  y : Sp
  u : Sp
  v : Sp
def spAt (w : World) (s : Sp) (b o : Nat) : Prop := w.cell? ⟨b, o, none⟩ = some (.int .i64 s.lo) ∧ w.cell? ⟨b, o + 1, none⟩ = some (.int .i64 s.hi)
def arAt (w : World) (a : Ar) (b o : Nat) : Prop := w.cell? ⟨b, o, none⟩ = some (.int .i64 a.x.lo) ∧ w.cell? ⟨b, o + 1, none⟩ = some (.int .i64 a.x.hi) ∧ w.cell? ⟨b, o + 2, none⟩ = some (.int .i64 a.y.lo) ∧ w.cell? ⟨b, o + 3, none⟩ = some (.int .i64 a.y.hi)
def bxAt (w : World) (a : Bx) (b o : Nat) : Prop := w.cell? ⟨b, o, none⟩ = some (.int .i64 a.x.lo) ∧ w.cell? ⟨b, o + 1, none⟩ = some (.int .i64 a.x.hi) ∧ w.cell? ⟨b, o + 2, none⟩ = some (.int .i64 a.y.lo) ∧ w.cell? ⟨b, o + 3, none⟩ = some (.int .i64 a.y.hi) ∧
  w.cell? ⟨b, o + 4, none⟩ = some (.int .i64 a.u.lo) ∧ w.cell? ⟨b, o + 5, none⟩ = some (.int .i64 a.u.hi) ∧ w.cell? ⟨b, o + 6, none⟩ = some (.int .i64 a.v.lo) ∧ w.cell? ⟨b, o + 7, none⟩ = some (.int .i64 a.v.hi)
abbrev Sps (w : World) (A : Option Addr) (n : Nat) (l : List Sp) : Prop := SlR 2 (spAt w) A n l
abbrev Ars (w : World) (A : Option Addr) (n : Nat) (l : List Ar) : Prop := SlR 4 (arAt w) A n l
abbrev Bxs (w : World) (A : Option Addr) (n : Nat) (l : List Bx) : Prop := SlR 8 (bxAt w) A n l
def spC (s : Sp) : List Value := [.int .i64 s.lo, .int .i64 s.hi]
def arC (a : Ar) : List Value := [.int .i64 a.x.lo, .int .i64 a.x.hi, .int .i64 a.y.lo, .int .i64 a.y.hi]
def bxC (a : Bx) : List Value := [.int .i64 a.x.lo, .int .i64 a.x.hi, .int .i64 a.y.lo, .int .i64 a.y.hi, .int .i64 a.u.lo, .int .i64 a.u.hi, .int .i64 a.v.lo, .int .i64 a.v.hi]
abbrev arV (a : Ar) : Value := .agg #[.int .i64 a.x.lo, .int .i64 a.x.hi, .int .i64 a.y.lo, .int .i64 a.y.hi]
abbrev bxV (a : Bx) : Value := .agg #[.int .i64 a.x.lo, .int .i64 a.x.hi, .int .i64 a.y.lo, .int .i64 a.y.hi, .int .i64 a.u.lo, .int .i64 a.u.hi, .int .i64 a.v.lo, .int .i64 a.v.hi]
section
variable {w w' : World} (e : Ext w w')
include e
theorem intAt.ext {p : Int} {b o : Nat} (h : intAt w p b o) : intAt w' p b o := e.cell h
theorem spAt.ext {p : Sp} {b o : Nat} (h : spAt w p b o) : spAt w' p b o := ⟨e.cell h.1, e.cell h.2⟩
theorem arAt.ext {p : Ar} {b o : Nat} (h : arAt w p b o) : arAt w' p b o := ⟨e.cell h.1, e.cell h.2.1, e.cell h.2.2.1, e.cell h.2.2.2⟩
theorem bxAt.ext {p : Bx} {b o : Nat} (h : bxAt w p b o) : bxAt w' p b o := by
  obtain ⟨h0, h1, h2, h3, h4, h5, h6, h7⟩ := h
  exact ⟨e.cell h0, e.cell h1, e.cell h2, e.cell h3, e.cell h4, e.cell h5, e.cell h6, e.cell h7⟩
theorem Sps.ext {A n l} (h : Sps w A n l) : Sps w' A n l := SlR.mono h fun _ _ _ _ => spAt.ext e
theorem Ars.ext {A n l} (h : Ars w A n l) : Ars w' A n l := SlR.mono h fun _ _ _ _ => arAt.ext e
theorem Bxs.ext {A n l} (h : Bxs w A n l) : Bxs w' A n l := SlR.mono h fun _ _ _ _ => bxAt.ext e
end
theorem flat_get {α : Type} {sz : Nat} {E : α → List Value} (hE : ∀ x, (E x).length = sz) {i : Nat} (hi : i < sz) : ∀ (l : List α) (k : Nat) (hk : k < l.length), (l.flatMap E)[k * sz + i]? = (E l[k])[i]? := by
  intro l
  induction l with
  | nil => intro k hk; simp at hk
  | cons a r ih =>
    intro k hk
    cases k with
    | zero => simp only [List.flatMap_cons, Nat.zero_mul, Nat.zero_add]; rw [List.getElem?_append_left (by rw [hE]; exact hi)]; rfl
    | succ k =>
      simp only [List.flatMap_cons]
      rw [List.getElem?_append_right (by rw [hE, Nat.succ_mul]; omega), hE]
      have e1 : (k + 1) * sz + i - sz = k * sz + i := by rw [Nat.succ_mul]; omega
      rw [e1]
      exact ih k (by simpa using hk)
theorem sl_blk {α : Type} {w : World} {b : Nat} {t : TypeId} {sz : Nat} {l : List α} {E : α → List Value} {R : α → Nat → Nat → Prop} (hE : ∀ x, (E x).length = sz)
    (hR : ∀ x b o, (∀ i u, (E x)[i]? = some u → w.cell? ⟨b, o + i, none⟩ = some u) → R x b o) (h : Blk w b t (l.flatMap E).toArray) (hn : l.length ≤ 9223372036854775807) : SlR sz R (some ⟨b, 0, none⟩) l.length l := by
  refine ⟨rfl, hn, .inr ⟨b, 0, rfl, fun k hk => hR _ _ _ fun i u hu => ?_⟩⟩
  have hi : i < sz := by
    have := (List.getElem?_eq_some_iff.1 hu).1
    rw [hE] at this; exact this
  rw [h.cell, List.getElem?_toArray, Nat.zero_add, flat_get hE hi l k hk, hu]
theorem int_read (w : World) (x : Int) (b o : Nat) (h : ∀ i u, (intC x)[i]? = some u → w.cell? ⟨b, o + i, none⟩ = some u) : intAt w x b o := h 0 _ rfl
theorem sp_read (w : World) (x : Sp) (b o : Nat) (h : ∀ i u, (spC x)[i]? = some u → w.cell? ⟨b, o + i, none⟩ = some u) : spAt w x b o := ⟨h 0 _ rfl, h 1 _ rfl⟩
theorem ar_read (w : World) (x : Ar) (b o : Nat) (h : ∀ i u, (arC x)[i]? = some u → w.cell? ⟨b, o + i, none⟩ = some u) : arAt w x b o := ⟨h 0 _ rfl, h 1 _ rfl, h 2 _ rfl, h 3 _ rfl⟩
theorem bx_read (w : World) (x : Bx) (b o : Nat) (h : ∀ i u, (bxC x)[i]? = some u → w.cell? ⟨b, o + i, none⟩ = some u) : bxAt w x b o := ⟨h 0 _ rfl, h 1 _ rfl, h 2 _ rfl, h 3 _ rfl, h 4 _ rfl, h 5 _ rfl, h 6 _ rfl, h 7 _ rfl⟩
theorem int_slice {w : World} {b : Nat} {t : TypeId} (l : List Int) (h : Blk w b t (l.flatMap intC).toArray) (hn : l.length ≤ 9223372036854775807) : Ints w (some ⟨b, 0, none⟩) l.length l := sl_blk (fun _ => rfl) (fun x b o => int_read w x b o) h hn
theorem sp_slice {w : World} {b : Nat} {t : TypeId} (l : List Sp) (h : Blk w b t (l.flatMap spC).toArray) (hn : l.length ≤ 9223372036854775807) : Sps w (some ⟨b, 0, none⟩) l.length l := sl_blk (fun _ => rfl) (fun x b o => sp_read w x b o) h hn
theorem ar_slice {w : World} {b : Nat} {t : TypeId} (l : List Ar) (h : Blk w b t (l.flatMap arC).toArray) (hn : l.length ≤ 9223372036854775807) : Ars w (some ⟨b, 0, none⟩) l.length l := sl_blk (fun _ => rfl) (fun x b o => ar_read w x b o) h hn
theorem bx_slice {w : World} {b : Nat} {t : TypeId} (l : List Bx) (h : Blk w b t (l.flatMap bxC).toArray) (hn : l.length ≤ 9223372036854775807) : Bxs w (some ⟨b, 0, none⟩) l.length l := sl_blk (fun _ => rfl) (fun x b o => bx_read w x b o) h hn
end Go.Proofs.YtiladlangkjoiaaGreat
