/- Slices among the arguments of the sky's laws: what they read as. No condition. -/
import Derived.Test.YtmgjjgmadiabfaaLaw
import Derived.Test.YtmgjjgmadiabfaaBig
namespace Go.Proofs.Ytmgjjgmadiabfaa
open Go.RowKit Go.ChangeShapes Go.WideShapes Go.ChangeAt

section
variable {H : Type} {enc : TypeId × Value → H} {w : World} {base : Nat}
theorem open_sights {fuel : Nat} {cs : List Value} {x : DataW H × List MemPlace} (h : DataW.trod enc Try.prog w base (fun _ => true) true fuel 51 cs = some x) : ∃ A n c l, cs = [.slice A n c] ∧ Sights w A n l :=
  open_sl (by omega) Try.underlying51 cells_sight elt_sight h
theorem open_states {fuel : Nat} {cs : List Value} {x : DataW H × List MemPlace} (h : DataW.trod enc Try.prog w base (fun _ => true) true fuel 69 cs = some x) : ∃ A n c l, cs = [.slice A n c] ∧ Sts w A n l :=
  open_sl (by omega) Try.underlying69 cells_state elt_state h
theorem cells_sights : Try.prog.cellsOf 51 = 1 := by kernel_rfl
theorem elt_sights (n b o : Nat) (cs : List Value) (y : DataW H × List MemPlace) (hc : ∀ i, i < 1 → w.cell? ⟨b, o + i, none⟩ = cs[i]?) (_ : cs.length = 1) (h : DataW.trod enc Try.prog w base (fun _ => true) true n 51 cs = some y) : ∃ x, trkAt w x b o := by
  obtain ⟨A, m, c, l, rfl, hl⟩ := open_sights h
  exact ⟨l, A, m, c, hc 0 (by omega), hl⟩
instance : Inhabited (List Sight) := ⟨[]⟩
theorem open_trks {fuel : Nat} {cs : List Value} {x : DataW H × List MemPlace} (h : DataW.trod enc Try.prog w base (fun _ => true) true fuel 74 cs = some x) : ∃ A n c l, cs = [.slice A n c] ∧ Trks w A n l :=
  open_sl (by omega) Try.underlying74 cells_sights elt_sights h
def intAt (w : World) (p : Int) (b o : Nat) : Prop := w.cell? ⟨b, o, none⟩ = some (.int .i64 p)
abbrev Ints (w : World) (A : Option Addr) (n : Nat) (l : List Int) : Prop := SlR 1 (intAt w) A n l
theorem Ints.ext {w w' : World} (e : Ext w w') {A n l} (h : Ints w A n l) : Ints w' A n l := SlR.mono h fun _ _ _ _ hx => e.cell hx
theorem elt_int (n b o : Nat) (cs : List Value) (y : DataW H × List MemPlace) (hc : ∀ i, i < 1 → w.cell? ⟨b, o + i, none⟩ = cs[i]?) (_ : cs.length = 1) (h : DataW.trod enc Try.prog w base (fun _ => true) true n 3 cs = some y) : ∃ x, intAt w x b o := by
  obtain ⟨p, rfl⟩ := open_i64 Try.underlying3 h
  exact ⟨p, hc 0 (by omega)⟩
theorem open_ints {fuel : Nat} {cs : List Value} {x : DataW H × List MemPlace} (h : DataW.trod enc Try.prog w base (fun _ => true) true fuel 38 cs = some x) : ∃ A n c l, cs = [.slice A n c] ∧ Ints w A n l :=
  open_sl (by omega) Try.underlying38 cells_int elt_int h
end
end Go.Proofs.Ytmgjjgmadiabfaa
