/- Missions, campaigns and lists of them among the arguments: what they read as. No condition. -/
import Derived.Test.YtiladlangkjoiaaGreatOpen3
import Derived.Test.YtiladlangkjoiaaGreatPushMem
import Derived.Test.YtiladlangkjoiaaGreatOwnRows
namespace Go.Proofs.YtiladlangkjoiaaGreat
open Go.RowKit Go.ChangeShapes Go.WideShapes Go.ChangeAt

section
variable {H : Type} {enc : TypeId × Value → H} {w : World} {base : Nat} {spare : Nat → Bool} {held : Bool}
theorem open_bool {t : TypeId} {fuel : Nat} {cs : List Value} {x : DataW H × List MemPlace} (ht : Tryz.prog.underlying t = some .bool) (h : DataW.trod enc Tryz.prog w base spare held fuel t cs = some x) : ∃ n : Bool, cs = [.bool n] := by
  obtain ⟨n, hn, _⟩ := DataW.trod_bool ht h
  exact ⟨n, hn⟩
theorem cells_bool : Tryz.prog.cellsOf 4 = 1 := by kernel_rfl
theorem cells_mission : Tryz.prog.cellsOf 30 = 14 := by kernel_rfl
theorem cells_key : Tryz.prog.cellsOf 189 = 3 := by kernel_rfl
theorem cells_camp : Tryz.prog.cellsOf 36 = 8 := by kernel_rfl
theorem cells_missions : Tryz.prog.cellsOf 33 = 1 := by kernel_rfl
theorem cells_keys : Tryz.prog.cellsOf 34 = 1 := by kernel_rfl
theorem len14 {α : Type} {cs : List α} (h : cs.length = 14) : ∃ a0 a1 a2 a3 a4 a5 a6 a7 a8 a9 a10 a11 a12 a13, cs = [a0, a1, a2, a3, a4, a5, a6, a7, a8, a9, a10, a11, a12, a13] := by
  match cs, h with
  | [a0, a1, a2, a3, a4, a5, a6, a7, a8, a9, a10, a11, a12, a13], _ => exact ⟨a0, a1, a2, a3, a4, a5, a6, a7, a8, a9, a10, a11, a12, a13, rfl⟩
theorem open_mission {fuel : Nat} {cs : List Value} {x : DataW H × List MemPlace} (h : DataW.trod enc Tryz.prog w base spare held fuel 30 cs = some x) : ∃ m : Mis, cs = [.int .i64 m.kind, .int .i64 m.launch, .int .i64 m.arrive, .int .i64 m.dur, .int .i64 m.mass.lo, .int .i64 m.mass.hi, .int .i64 m.power.lo, .int .i64 m.power.hi, .int .i64 m.mult.lo, .int .i64 m.mult.hi, .int .i64 m.dir.x, .int .i64 m.dir.y, .bool m.reserve, .int .i64 m.cost] := by
  obtain ⟨hl, n, hf⟩ := open_field Tryz.underlying30 h
  obtain ⟨a0, a1, a2, a3, a4, a5, a6, a7, a8, a9, a10, a11, a12, a13, rfl⟩ := len14 (hl.trans cells_mission)
  obtain ⟨_, h0⟩ := hf 0 _ 0 _ rfl cells_int
  obtain ⟨b0, e0⟩ := open_i64 Tryz.underlying3 (show DataW.trod enc Tryz.prog w base spare held n 3 [a0] = some _ from h0)
  obtain rfl : a0 = .int .i64 b0 := by injection e0
  obtain ⟨_, h1⟩ := hf 1 _ 1 _ rfl cells_int64
  obtain ⟨b1, e1⟩ := open_i64 Tryz.underlying2 (show DataW.trod enc Tryz.prog w base spare held n 2 [a1] = some _ from h1)
  obtain rfl : a1 = .int .i64 b1 := by injection e1
  obtain ⟨_, h2⟩ := hf 2 _ 2 _ rfl cells_int64
  obtain ⟨b2, e2⟩ := open_i64 Tryz.underlying2 (show DataW.trod enc Tryz.prog w base spare held n 2 [a2] = some _ from h2)
  obtain rfl : a2 = .int .i64 b2 := by injection e2
  obtain ⟨_, h3⟩ := hf 3 _ 3 _ rfl cells_int
  obtain ⟨b3, e3⟩ := open_i64 Tryz.underlying3 (show DataW.trod enc Tryz.prog w base spare held n 3 [a3] = some _ from h3)
  obtain rfl : a3 = .int .i64 b3 := by injection e3
  obtain ⟨_, h4⟩ := hf 4 _ 4 _ rfl cells_span
  obtain ⟨p4, e4⟩ := open_span (show DataW.trod enc Tryz.prog w base spare held n 26 [a4, a5] = some _ from h4)
  injection e4 with e4a e4b; injection e4b with e4b; subst e4a e4b
  obtain ⟨_, h5⟩ := hf 5 _ 6 _ rfl cells_span
  obtain ⟨p5, e5⟩ := open_span (show DataW.trod enc Tryz.prog w base spare held n 26 [a6, a7] = some _ from h5)
  injection e5 with e5a e5b; injection e5b with e5b; subst e5a e5b
  obtain ⟨_, h6⟩ := hf 6 _ 8 _ rfl cells_span
  obtain ⟨p6, e6⟩ := open_span (show DataW.trod enc Tryz.prog w base spare held n 26 [a8, a9] = some _ from h6)
  injection e6 with e6a e6b; injection e6b with e6b; subst e6a e6b
  obtain ⟨_, h7⟩ := hf 7 _ 10 _ rfl cells_vec
  obtain ⟨p7, e7⟩ := open_vec (show DataW.trod enc Tryz.prog w base spare held n 28 [a10, a11] = some _ from h7)
  injection e7 with e7a e7b; injection e7b with e7b; subst e7a e7b
  obtain ⟨_, h8⟩ := hf 8 _ 12 _ rfl cells_bool
  obtain ⟨b8, e8⟩ := open_bool Tryz.underlying4 (show DataW.trod enc Tryz.prog w base spare held n 4 [a12] = some _ from h8)
  obtain rfl : a12 = .bool b8 := by injection e8
  obtain ⟨_, h9⟩ := hf 9 _ 13 _ rfl cells_int
  obtain ⟨b9, e9⟩ := open_i64 Tryz.underlying3 (show DataW.trod enc Tryz.prog w base spare held n 3 [a13] = some _ from h9)
  obtain rfl : a13 = .int .i64 b9 := by injection e9
  exact ⟨⟨b0, b1, b2, b3, ⟨p4.x, p4.y⟩, ⟨p5.x, p5.y⟩, ⟨p6.x, p6.y⟩, p7, b8, b9⟩, rfl⟩
theorem open_key {fuel : Nat} {cs : List Value} {x : DataW H × List MemPlace} (h : DataW.trod enc Tryz.prog w base spare held fuel 189 cs = some x) : ∃ k : Key, cs = [.int .i64 k.tick, .int .i64 k.line.lo, .int .i64 k.line.hi] := by
  obtain ⟨hl, n, hf⟩ := open_field Tryz.underlying189 h
  obtain ⟨a0, a1, a2, rfl⟩ := len3 (hl.trans cells_key)
  obtain ⟨_, h0⟩ := hf 0 _ 0 _ rfl cells_int64
  obtain ⟨b0, e0⟩ := open_i64 Tryz.underlying2 (show DataW.trod enc Tryz.prog w base spare held n 2 [a0] = some _ from h0)
  obtain rfl : a0 = .int .i64 b0 := by injection e0
  obtain ⟨_, h1⟩ := hf 1 _ 1 _ rfl cells_span
  obtain ⟨p1, e1⟩ := open_span (show DataW.trod enc Tryz.prog w base spare held n 26 [a1, a2] = some _ from h1)
  injection e1 with e1a e1b; injection e1b with e1b; subst e1a e1b
  exact ⟨⟨b0, ⟨p1.x, p1.y⟩⟩, rfl⟩
end
section
variable {H : Type} {enc : TypeId × Value → H} {w : World} {base : Nat}
instance : Inhabited Mis := ⟨⟨0, 0, 0, 0, ⟨0, 0⟩, ⟨0, 0⟩, ⟨0, 0⟩, ⟨0, 0⟩, false, 0⟩⟩
instance : Inhabited Key := ⟨⟨0, ⟨0, 0⟩⟩⟩
instance : Inhabited Camp := ⟨⟨[], ⟨0, 0⟩, 0, 0, 0, 0, []⟩⟩
theorem elt_mission (n b o : Nat) (cs : List Value) (y : DataW H × List MemPlace) (hc : ∀ i, i < 14 → w.cell? ⟨b, o + i, none⟩ = cs[i]?) (_ : cs.length = 14) (h : DataW.trod enc Tryz.prog w base (fun _ => true) true n 30 cs = some y) : ∃ x, misAt w x b o := by
  obtain ⟨p, rfl⟩ := open_mission h
  exact ⟨p, hc 0 (by omega), hc 1 (by omega), hc 2 (by omega), hc 3 (by omega), hc 4 (by omega), hc 5 (by omega), hc 6 (by omega), hc 7 (by omega), hc 8 (by omega), hc 9 (by omega), hc 10 (by omega), hc 11 (by omega), hc 12 (by omega), hc 13 (by omega)⟩
theorem elt_key (n b o : Nat) (cs : List Value) (y : DataW H × List MemPlace) (hc : ∀ i, i < 3 → w.cell? ⟨b, o + i, none⟩ = cs[i]?) (_ : cs.length = 3) (h : DataW.trod enc Tryz.prog w base (fun _ => true) true n 189 cs = some y) : ∃ x, keyAt w x b o := by
  obtain ⟨p, rfl⟩ := open_key h
  exact ⟨p, hc 0 (by omega), hc 1 (by omega), hc 2 (by omega)⟩
theorem open_missions {fuel : Nat} {cs : List Value} {x : DataW H × List MemPlace} (h : DataW.trod enc Tryz.prog w base (fun _ => true) true fuel 33 cs = some x) : ∃ A n c l, cs = [.slice A n c] ∧ Miss w A n l :=
  open_sl (by omega) Tryz.underlying33 cells_mission elt_mission h
theorem open_keys {fuel : Nat} {cs : List Value} {x : DataW H × List MemPlace} (h : DataW.trod enc Tryz.prog w base (fun _ => true) true fuel 34 cs = some x) : ∃ A n c l, cs = [.slice A n c] ∧ Keys w A n l :=
  open_sl (by omega) Tryz.underlying34 cells_key elt_key h
theorem open_camp {fuel : Nat} {cs : List Value} {x : DataW H × List MemPlace} (h : DataW.trod enc Tryz.prog w base (fun _ => true) true fuel 36 cs = some x) : ∃ A1 n1 c1 A2 n2 c2, ∃ c : Camp, cs = [.slice A1 n1 c1, .int .i64 c.body.lo, .int .i64 c.body.hi, .int .i64 c.fast, .int .i64 c.fails, .int .i64 c.miss, .int .i64 c.ticks, .slice A2 n2 c2] ∧ Miss w A1 n1 c.missions ∧ Keys w A2 n2 c.keys := by
  obtain ⟨hl, n, hf⟩ := open_field Tryz.underlying36 h
  obtain ⟨a0, a1, a2, a3, a4, a5, a6, a7, rfl⟩ := len8 (hl.trans cells_camp)
  obtain ⟨_, h0⟩ := hf 0 _ 0 _ rfl cells_missions
  obtain ⟨A1, n1, c1, l1, e0, hm⟩ := open_missions (show DataW.trod enc Tryz.prog w base (fun _ => true) true n 33 [a0] = some _ from h0)
  injection e0 with e0 _; subst e0
  obtain ⟨_, h1⟩ := hf 1 _ 1 _ rfl cells_span
  obtain ⟨p1, e1⟩ := open_span (show DataW.trod enc Tryz.prog w base (fun _ => true) true n 26 [a1, a2] = some _ from h1)
  injection e1 with e1a e1b; injection e1b with e1b; subst e1a e1b
  obtain ⟨_, h3⟩ := hf 2 _ 3 _ rfl cells_int64
  obtain ⟨b3, e3⟩ := open_i64 Tryz.underlying2 (show DataW.trod enc Tryz.prog w base (fun _ => true) true n 2 [a3] = some _ from h3)
  obtain rfl : a3 = .int .i64 b3 := by injection e3
  obtain ⟨_, h4⟩ := hf 3 _ 4 _ rfl cells_int
  obtain ⟨b4, e4⟩ := open_i64 Tryz.underlying3 (show DataW.trod enc Tryz.prog w base (fun _ => true) true n 3 [a4] = some _ from h4)
  obtain rfl : a4 = .int .i64 b4 := by injection e4
  obtain ⟨_, h5⟩ := hf 4 _ 5 _ rfl cells_int64
  obtain ⟨b5, e5⟩ := open_i64 Tryz.underlying2 (show DataW.trod enc Tryz.prog w base (fun _ => true) true n 2 [a5] = some _ from h5)
  obtain rfl : a5 = .int .i64 b5 := by injection e5
  obtain ⟨_, h6⟩ := hf 5 _ 6 _ rfl cells_int
  obtain ⟨b6, e6⟩ := open_i64 Tryz.underlying3 (show DataW.trod enc Tryz.prog w base (fun _ => true) true n 3 [a6] = some _ from h6)
  obtain rfl : a6 = .int .i64 b6 := by injection e6
  obtain ⟨_, h7⟩ := hf 6 _ 7 _ rfl cells_keys
  obtain ⟨A2, n2, c2, l2, e7, hk⟩ := open_keys (show DataW.trod enc Tryz.prog w base (fun _ => true) true n 34 [a7] = some _ from h7)
  injection e7 with e7 _; subst e7
  exact ⟨A1, n1, c1, A2, n2, c2, ⟨l1, ⟨p1.x, p1.y⟩, b3, b4, b5, b6, l2⟩, rfl, hm, hk⟩
instance : Inhabited (List Int) := ⟨[]⟩
end
end Go.Proofs.YtiladlangkjoiaaGreat
