/- copy of elements of several cells. No condition. -/
import Derived.Test.YtfniicgoeljmdaaGreatOwnBoxes
import Derived.Laws.CopyRow
import Derived.Laws.CopyOwn
import Derived.Laws.Externs
import Derived.Lib.AppendZerosOnto
import Derived.Lib.Overlaps
namespace Go.Proofs.YtfniicgoeljmdaaGreat
open Go.RowKit

theorem run_copy_n {P : Program} (w : World) (dT sT ty elem : TypeId) (sz g o dLen dCap : Nat) (a : Addr) (sLen sCap m : Nat) (cur : Array Value) (t : TypeId) (cs : List Value)
    (hu : P.underlying dT = some (.slice elem)) (hs : (P.info? elem).map (·.size) = some sz)
    (hg : w.heap[g]? = some (.cells cur t (0, 0))) (hm : m = Nat.min sLen dLen) (hn : cs.length = m * sz)
    (hsrc : ∀ j v, cs[j]? = some v → w.cell? (a.add j) = some v) (hfit : o + cs.length ≤ cur.size) (h1 : ∀ v ∈ cs, v.oneCell' = true) :
    (Builtin.copy_ #[dT, sT] ty #[.slice (some ⟨g, o, none⟩) dLen dCap, .slice (some a) sLen sCap]).run P w =
      .ok (goInt m) (w.setRow g (cur.toList.take o ++ cs ++ cur.toList.drop (o + cs.length)).toArray) := by
  have hl := run_loadCells_list (P := P) w a cs hsrc
  have hst := run_storeCells_at P g o t cs 0 cur w hg (by simpa using hfit) h1
  subst hm
  cases hq : P.info? elem with
  | none => simp [hq] at hs
  | some i =>
    have hi : i.size = sz := by simpa [hq] using hs
    simp [Builtin.copy_, run_underlying hu, Builtin.lenOf, Builtin.firstCells, sizeOf, typeInfo, hq, hi, ← hn, hl, hst]
/-- A row of a block is written: what the block holds then. -/
theorem setRow_blk {w : World} {g : Nat} {t : TypeId} {cur cs : Array Value} (h : Blk w g t cur) : Blk (w.setRow g cs) g t cs := setRow_heap w g cur cs t _ h
section
variable {P : Program}
theorem runs_copy (w : World) {o : Oper} {a : Act} {G : Value → World → Prop} (d s : Operand) (t t' : TypeId)
    (ho : o.op = .call { callee := .builtin .copy, args := #[d, s], argTypes := #[t, t'] }) (v u : Value) (hd : a.eval d = v) (hs : a.eval s = u) {v' : Value} {w' : World}
    (hr : (Builtin.copy_ #[t, t'] o.type #[v, u]).run P w = .ok v' w') (h : G v' w') : RunsTo P G ((execOp a.eval o).run P w) := by
  simp [execOp, ho, resolve, invoke, builtin, hd, hs, hr, Result.andThen, RunsTo]
  exact h
end
theorem flat_take {α : Type} {sz : Nat} {E : α → List Value} (hE : ∀ x, (E x).length = sz) : ∀ (l : List α) (k : Nat), (l.take k).flatMap E = (l.flatMap E).take (k * sz)
  | [], k => by simp
  | a :: r, 0 => by simp
  | a :: r, k + 1 => by
    simp only [List.take_succ_cons, List.flatMap_cons]
    rw [flat_take hE r k, List.take_append, hE, show (k + 1) * sz - sz = k * sz by rw [Nat.succ_mul]; omega, List.take_of_length_le (l := E a) (by rw [hE, Nat.succ_mul]; omega)]
theorem flat_drop {α : Type} {sz : Nat} {E : α → List Value} (hE : ∀ x, (E x).length = sz) : ∀ (l : List α) (k : Nat), (l.drop k).flatMap E = (l.flatMap E).drop (k * sz)
  | [], k => by simp
  | a :: r, 0 => by simp
  | a :: r, k + 1 => by
    simp only [List.drop_succ_cons, List.flatMap_cons]
    rw [flat_drop hE r k, List.drop_append, hE, show (k + 1) * sz - sz = k * sz by rw [Nat.succ_mul]; omega, List.drop_of_length_le (l := E a) (by rw [hE, Nat.succ_mul]; omega)]
    simp
end Go.Proofs.YtfniicgoeljmdaaGreat
