/- Boxes, drifts, slices of boxes among the arguments: what they read as. No condition. -/
import Derived.Test.YtfniicgoeljmdaaGreatOpen2
import Derived.Test.YtfniicgoeljmdaaGreatOwnBoxes
namespace Go.Proofs.YtfniicgoeljmdaaGreat
open Go.RowKit Go.ChangeShapes Go.WideShapes Go.ChangeAt

section
variable {H : Type} {enc : TypeId × Value → H} {w : World} {base : Nat} {spare : Nat → Bool} {held : Bool}
theorem cells_box : Tryz.prog.cellsOf 38 = 8 := by kernel_rfl
theorem cells_drift : Tryz.prog.cellsOf 28 = 5 := by kernel_rfl
theorem len5 {α : Type} {cs : List α} (h : cs.length = 5) : ∃ a0 a1 a2 a3 a4, cs = [a0, a1, a2, a3, a4] := by
  match cs, h with
  | [a0, a1, a2, a3, a4], _ => exact ⟨a0, a1, a2, a3, a4, rfl⟩
theorem len8 {α : Type} {cs : List α} (h : cs.length = 8) : ∃ a0 a1 a2 a3 a4 a5 a6 a7, cs = [a0, a1, a2, a3, a4, a5, a6, a7] := by
  match cs, h with
  | [a0, a1, a2, a3, a4, a5, a6, a7], _ => exact ⟨a0, a1, a2, a3, a4, a5, a6, a7, rfl⟩
theorem open_box {fuel : Nat} {cs : List Value} {x : DataW H × List MemPlace} (h : DataW.trod enc Tryz.prog w base spare held fuel 38 cs = some x) : ∃ b : Bx, cs = [.int .i64 b.x.lo, .int .i64 b.x.hi, .int .i64 b.y.lo, .int .i64 b.y.hi, .int .i64 b.u.lo, .int .i64 b.u.hi, .int .i64 b.v.lo, .int .i64 b.v.hi] := by
  obtain ⟨hl, n, hf⟩ := open_field Tryz.underlying38 h
  obtain ⟨a0, a1, a2, a3, a4, a5, a6, a7, rfl⟩ := len8 (hl.trans cells_box)
  obtain ⟨_, h0⟩ := hf 0 _ 0 _ rfl cells_span
  obtain ⟨p0, e0⟩ := open_span (show DataW.trod enc Tryz.prog w base spare held n 26 [a0, a1] = some _ from h0)
  injection e0 with e0a e0b; injection e0b with e0b; subst e0a e0b
  obtain ⟨_, h1⟩ := hf 1 _ 2 _ rfl cells_span
  obtain ⟨p1, e1⟩ := open_span (show DataW.trod enc Tryz.prog w base spare held n 26 [a2, a3] = some _ from h1)
  injection e1 with e1a e1b; injection e1b with e1b; subst e1a e1b
  obtain ⟨_, h2⟩ := hf 2 _ 4 _ rfl cells_span
  obtain ⟨p2, e2⟩ := open_span (show DataW.trod enc Tryz.prog w base spare held n 26 [a4, a5] = some _ from h2)
  injection e2 with e2a e2b; injection e2b with e2b; subst e2a e2b
  obtain ⟨_, h3⟩ := hf 3 _ 6 _ rfl cells_span
  obtain ⟨p3, e3⟩ := open_span (show DataW.trod enc Tryz.prog w base spare held n 26 [a6, a7] = some _ from h3)
  injection e3 with e3a e3b; injection e3b with e3b; subst e3a e3b
  exact ⟨⟨⟨p0.x, p0.y⟩, ⟨p1.x, p1.y⟩, ⟨p2.x, p2.y⟩, p3.x, p3.y⟩, rfl⟩
theorem open_drift {fuel : Nat} {cs : List Value} {x : DataW H × List MemPlace} (h : DataW.trod enc Tryz.prog w base spare held fuel 28 cs = some x) : ∃ d : Drf, cs = [.int .i64 d.light.lo, .int .i64 d.light.hi, .int .i64 d.heat.lo, .int .i64 d.heat.hi, .int .i64 d.gas] := by
  obtain ⟨hl, n, hf⟩ := open_field Tryz.underlying28 h
  obtain ⟨a0, a1, a2, a3, a4, rfl⟩ := len5 (hl.trans cells_drift)
  obtain ⟨_, h0⟩ := hf 0 _ 0 _ rfl cells_span
  obtain ⟨p0, e0⟩ := open_span (show DataW.trod enc Tryz.prog w base spare held n 26 [a0, a1] = some _ from h0)
  injection e0 with e0a e0b; injection e0b with e0b; subst e0a e0b
  obtain ⟨_, h1⟩ := hf 1 _ 2 _ rfl cells_span
  obtain ⟨p1, e1⟩ := open_span (show DataW.trod enc Tryz.prog w base spare held n 26 [a2, a3] = some _ from h1)
  injection e1 with e1a e1b; injection e1b with e1b; subst e1a e1b
  obtain ⟨_, h2⟩ := hf 2 _ 4 _ rfl cells_int64
  obtain ⟨b2, e2⟩ := open_i64 Tryz.underlying2 (show DataW.trod enc Tryz.prog w base spare held n 2 [a4] = some _ from h2)
  obtain rfl : a4 = .int .i64 b2 := by injection e2
  exact ⟨⟨⟨p0.x, p0.y⟩, ⟨p1.x, p1.y⟩, b2⟩, rfl⟩
end
section
variable {H : Type} {enc : TypeId × Value → H} {w : World} {base : Nat}
instance : Inhabited Bx := ⟨zeroB⟩
theorem elt_box (n b o : Nat) (cs : List Value) (y : DataW H × List MemPlace) (hc : ∀ i, i < 8 → w.cell? ⟨b, o + i, none⟩ = cs[i]?) (_ : cs.length = 8) (h : DataW.trod enc Tryz.prog w base (fun _ => true) true n 38 cs = some y) : ∃ x, bxAt w x b o := by
  obtain ⟨p, rfl⟩ := open_box h
  exact ⟨p, hc 0 (by omega), hc 1 (by omega), hc 2 (by omega), hc 3 (by omega), hc 4 (by omega), hc 5 (by omega), hc 6 (by omega), hc 7 (by omega)⟩
theorem open_cap {t e : TypeId} {fuel : Nat} {A : Option Addr} {n c : Nat} {x : DataW H × List MemPlace} (ht : Tryz.prog.underlying t = some (.slice e)) (h : DataW.trod enc Tryz.prog w base (fun _ => true) true fuel t [.slice A n c] = some x) : n ≤ c := by
  rcases DataW.trod_slice ht h with ⟨h0, _⟩ | ⟨a, len, cap, elems, rest, m, _, h1, _, _, hl, _⟩
  · injection h0 with h0 _
    injection h0 with h1 h2 h3
    omega
  · injection h1 with h0 _
    injection h0 with h1 h2 h3
    omega
theorem open_boxes {fuel : Nat} {cs : List Value} {x : DataW H × List MemPlace} (h : DataW.trod enc Tryz.prog w base (fun _ => true) true fuel 39 cs = some x) : ∃ A n c l, cs = [.slice A n c] ∧ Bxs w A n l ∧ n ≤ c := by
  obtain ⟨A, n, c, l, rfl, hl⟩ := open_sl (by omega) Tryz.underlying39 cells_box elt_box h
  exact ⟨A, n, c, l, rfl, hl, open_cap Tryz.underlying39 h⟩
end
end Go.Proofs.YtfniicgoeljmdaaGreat
