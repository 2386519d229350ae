/- Slices that a block of cells makes: numbers, spans, areas, boxes. No condition. -/
import Derived.Test.YtfniicgoeljmdaaMonoLaw
import Derived.Test.YtfniicgoeljmdaaCopySky
namespace Go.Proofs.Ytfniicgoeljmdaa
open Go.RowKit

structure Bx where
  x : Sp
  y : Sp
  u : Sp
  v : Sp
def spAt (w : World) (s : Sp) (b o : Nat) : Prop := w.cell? ⟨b, o, none⟩ = some (.int .i64 s.lo) ∧ w.cell? ⟨b, o + 1, none⟩ = some (.int .i64 s.hi)
def arAt (w : World) (a : Ar) (b o : Nat) : Prop := w.cell? ⟨b, o, none⟩ = some (.int .i64 a.x.lo) ∧ w.cell? ⟨b, o + 1, none⟩ = some (.int .i64 a.x.hi) ∧ w.cell? ⟨b, o + 2, none⟩ = some (.int .i64 a.y.lo) ∧ w.cell? ⟨b, o + 3, none⟩ = some (.int .i64 a.y.hi)
def bxAt (w : World) (a : Bx) (b o : Nat) : Prop := w.cell? ⟨b, o, none⟩ = some (.int .i64 a.x.lo) ∧ w.cell? ⟨b, o + 1, none⟩ = some (.int .i64 a.x.hi) ∧ w.cell? ⟨b, o + 2, none⟩ = some (.int .i64 a.y.lo) ∧ w.cell? ⟨b, o + 3, none⟩ = some (.int .i64 a.y.hi) ∧
  w.cell? ⟨b, o + 4, none⟩ = some (.int .i64 a.u.lo) ∧ w.cell? ⟨b, o + 5, none⟩ = some (.int .i64 a.u.hi) ∧ w.cell? ⟨b, o + 6, none⟩ = some (.int .i64 a.v.lo) ∧ w.cell? ⟨b, o + 7, none⟩ = some (.int .i64 a.v.hi)
abbrev Sps (w : World) (A : Option Addr) (n : Nat) (l : List Sp) : Prop := SlR 2 (spAt w) A n l
abbrev Ars (w : World) (A : Option Addr) (n : Nat) (l : List Ar) : Prop := SlR 4 (arAt w) A n l
abbrev Bxs (w : World) (A : Option Addr) (n : Nat) (l : List Bx) : Prop := SlR 8 (bxAt w) A n l
def spC (s : Sp) : List Value := [.int .i64 s.lo, .int .i64 s.hi]
def arC (a : Ar) : List Value := [.int .i64 a.x.lo, .int .i64 a.x.hi, .int .i64 a.y.lo, .int .i64 a.y.hi]
def bxC (a : Bx) : List Value := [.int .i64 a.x.lo, .int .i64 a.x.hi, .int .i64 a.y.lo, .int .i64 a.y.hi, .int .i64 a.u.lo, .int .i64 a.u.hi, .int .i64 a.v.lo, .int .i64 a.v.hi]
abbrev arV (a : Ar) : Value := .agg #[.int .i64 a.x.lo, .int .i64 a.x.hi, .int .i64 a.y.lo, .int .i64 a.y.hi]
abbrev bxV (a : Bx) : Value := .agg #[.int .i64 a.x.lo, .int .i64 a.x.hi, .int .i64 a.y.lo, .int .i64 a.y.hi, .int .i64 a.u.lo, .int .i64 a.u.hi, .int .i64 a.v.lo, .int .i64 a.v.hi]
section
variable {w w' : World} (e : Ext w w')
include e
theorem intAt.ext {p : Int} {b o : Nat} (h : intAt w p b o) : intAt w' p b o := e.cell h
theorem spAt.ext {p : Sp} {b o : Nat} (h : spAt w p b o) : spAt w' p b o := ⟨e.cell h.1, e.cell h.2⟩
theorem arAt.ext {p : Ar} {b o : Nat} (h : arAt w p b o) : arAt w' p b o := ⟨e.cell h.1, e.cell h.2.1, e.cell h.2.2.1, e.cell h.2.2.2⟩
theorem bxAt.ext {p : Bx} {b o : Nat} (h : bxAt w p b o) : bxAt w' p b o := by
  obtain ⟨h0, h1, h2, h3, h4, h5, h6, h7⟩ := h
  exact ⟨e.cell h0, e.cell h1, e.cell h2, e.cell h3, e.cell h4, e.cell h5, e.cell h6, e.cell h7⟩
theorem Sps.ext {A n l} (h : Sps w A n l) : Sps w' A n l := SlR.mono h fun _ _ _ _ => spAt.ext e
theorem Ars.ext {A n l} (h : Ars w A n l) : Ars w' A n l := SlR.mono h fun _ _ _ _ => arAt.ext e
theorem Bxs.ext {A n l} (h : Bxs w A n l) : Bxs w' A n l := SlR.mono h fun _ _ _ _ => bxAt.ext e
end
theorem flat_get {α : Type} {sz : Nat} {E : α → List Value} (hE : ∀ x, (E x).length = sz) {i : Nat} (hi : i < sz) : ∀ (l : List α) (k : Nat) (hk : k < l.length), (l.flatMap E)[k * sz + i]? = (E l[k])[i]? := by
  intro l
  induction l with
  | nil => intro k hk; simp at hk
  | cons a r ih =>
    intro k hk
    cases k with
    | zero => simp only [List.flatMap_cons, Nat.zero_mul, Nat.zero_add]; rw [List.getElem?_append_left (by rw [hE]; exact hi)]; rfl
    | succ k =>
      simp only [List.flatMap_cons]
      rw [List.getElem?_append_right (by rw [hE, Nat.succ_mul]; omega), hE]
      have e1 : (k + 1) * sz + i - sz = k * sz + i := by rw [Nat.succ_mul]; omega
      rw [e1]
      exact ih k (by simpa using hk)
theorem sl_blk {α : Type} {w : World} {b : Nat} {t : TypeId} {sz : Nat} {l : List α} {E : α → List Value} {R : α → Nat → Nat → Prop} (hE : ∀ x, (E x).length = sz)
    (hR : ∀ x b o, (∀ i u, (E x)[i]? = some u → w.cell? ⟨b, o + i, none⟩ = some u) → R x b o) (h : Blk w b t (l.flatMap E).toArray) (hn : l.length ≤ 9223372036854775807) : SlR sz R (some ⟨b, 0, none⟩) l.length l := by
  refine ⟨rfl, hn, .inr ⟨b, 0, rfl, fun k hk => hR _ _ _ fun i u hu => ?_⟩⟩
  have hi : i < sz := by
    have := (List.getElem?_eq_some_iff.1 hu).1
    rw [hE] at this; exact this
  rw [h.cell, List.getElem?_toArray, Nat.zero_add, flat_get hE hi l k hk, hu]
theorem int_read (w : World) (x : Int) (b o : Nat) (h : ∀ i u, (intC x)[i]? = some u → w.cell? ⟨b, o + i, none⟩ = some u) : intAt w x b o := h 0 _ rfl
theorem sp_read (w : World) (x : Sp) (b o : Nat) (h : ∀ i u, (spC x)[i]? = some u → w.cell? ⟨b, o + i, none⟩ = some u) : spAt w x b o := ⟨h 0 _ rfl, h 1 _ rfl⟩
theorem ar_read (w : World) (x : Ar) (b o : Nat) (h : ∀ i u, (arC x)[i]? = some u → w.cell? ⟨b, o + i, none⟩ = some u) : arAt w x b o := ⟨h 0 _ rfl, h 1 _ rfl, h 2 _ rfl, h 3 _ rfl⟩
theorem bx_read (w : World) (x : Bx) (b o : Nat) (h : ∀ i u, (bxC x)[i]? = some u → w.cell? ⟨b, o + i, none⟩ = some u) : bxAt w x b o := ⟨h 0 _ rfl, h 1 _ rfl, h 2 _ rfl, h 3 _ rfl, h 4 _ rfl, h 5 _ rfl, h 6 _ rfl, h 7 _ rfl⟩
theorem int_slice {w : World} {b : Nat} {t : TypeId} (l : List Int) (h : Blk w b t (l.flatMap intC).toArray) (hn : l.length ≤ 9223372036854775807) : Ints w (some ⟨b, 0, none⟩) l.length l := sl_blk (fun _ => rfl) (fun x b o => int_read w x b o) h hn
theorem sp_slice {w : World} {b : Nat} {t : TypeId} (l : List Sp) (h : Blk w b t (l.flatMap spC).toArray) (hn : l.length ≤ 9223372036854775807) : Sps w (some ⟨b, 0, none⟩) l.length l := sl_blk (fun _ => rfl) (fun x b o => sp_read w x b o) h hn
theorem ar_slice {w : World} {b : Nat} {t : TypeId} (l : List Ar) (h : Blk w b t (l.flatMap arC).toArray) (hn : l.length ≤ 9223372036854775807) : Ars w (some ⟨b, 0, none⟩) l.length l := sl_blk (fun _ => rfl) (fun x b o => ar_read w x b o) h hn
end Go.Proofs.Ytfniicgoeljmdaa
