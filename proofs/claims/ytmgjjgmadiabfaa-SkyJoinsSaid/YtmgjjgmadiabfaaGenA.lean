/- Operations of a drawn region that are known by what holds of their values: appends, slices. No condition. -/
import Derived.Test.YtmgjjgmadiabfaaGenD
import Derived.Test.YtmgjjgmadiabfaaOwn
namespace Go.Proofs.Ytmgjjgmadiabfaa
open Go.RowKit

section
variable {P : Program}
theorem runs_append {w : World} {o : Oper} {a : Act} (s x : Operand) (t : TypeId)
    (ho : o.op = .call { callee := .builtin .append, args := #[s, x], argTypes := #[t, t] })
    (base : Nat) (e : TypeId) (i : TypeInfo) (z : Value) (size bytes : Nat) (ht : P.underlying t = some (.slice e)) (hi : P.info? e = some i) (hz : i.zero = some z)
    (hsize : i.size = size) (hby : i.bytes = bytes) (hzs : z.cells.size = size) (hsz : 0 < size)
    (v : Value) (n : Nat) (xs : List Value) (hs : a.eval s = v) (hown : w.ownsRow base e size v n xs)
    (A : Option Addr) (m c : Nat) (news : List Value) (hx : a.eval x = .slice A m c) (hl : news.length = m * size) (hnews : m = 0 ∨ ∃ ad, A = some ad ∧ ∀ j u, news[j]? = some u → w.cell? (ad.add j) = some u) (h1 : ∀ u ∈ news, u.oneCell' = true)
    (h63 : n + m ≤ maxLen) (hbytes : (n + m) * bytes ≤ 140737488355328) (hbase : base ≤ w.heap.size) {G : Value → World → Prop}
    (h : ∀ v' w', w'.ownsRow base e size v' (n + m) (xs ++ news) → w.grownBy w' v.ownBlock → (v' = .slice none 0 0 → v = .slice none 0 0) → G v' w') : RunsTo P G ((execOp a.eval o).run P w) := by
  rcases hnews with rfl | ⟨ad, rfl, hnews⟩
  · have hn : news = [] := List.eq_nil_of_length_eq_zero (by simpa using hl)
    subst hn
    have hrun := run_append_none (P := P) (w := w) base t o.type e i size ht hi v n xs hown A c
    have h2 := h v w (by simpa using hown) ⟨rfl, rfl, rfl, Nat.le_refl _, fun _ _ _ => rfl⟩ id
    simpa [execOp, ho, resolve, invoke, builtin, hs, hx, hrun, Result.andThen, RunsTo] using h2
  · obtain ⟨v', w', hrun, h2, h3, h4⟩ := run_append_own (P := P) (w := w) base t o.type e i z size bytes ht hi hz hsize hby hzs hsz v n xs hown ad m c news hl hnews h1 h63 hbytes hbase
    have h5 := h v' w' h2 h3 fun e => (h4.1 e).1
    simpa [execOp, ho, resolve, invoke, builtin, hs, hx, hrun, Result.andThen, RunsTo] using h5
/-- An operation whose value is known, that leaves the world. -/
theorem runs_val {w : World} {o : Oper} {a : Act} {v : Value} {G : Value → World → Prop} (hrun : (execOp a.eval o).run P w = .ok (.value v) w) (h : G v w) : RunsTo P G ((execOp a.eval o).run P w) := by
  rw [hrun]; exact h
theorem runs_to {w w1 : World} {o : Oper} {a : Act} {v : Value} {G : Value → World → Prop} (hrun : (execOp a.eval o).run P w = .ok (.value v) w1) (h : G v w1) : RunsTo P G ((execOp a.eval o).run P w) := by
  rw [hrun]; exact h
theorem runs_call {w : World} {o : Oper} {a : Act} {f : FuncId} {args : Array Value} {G : Value → World → Prop} (hrun : (execOp a.eval o).run P w = .ok (.enter f args) w) (h : Calls P f args w fun e w' => ∃ v, e = .returned v ∧ G v w') : RunsTo P G ((execOp a.eval o).run P w) := by
  rw [hrun]; exact h
end
theorem own_empty {w : World} {base b : Nat} {e : TypeId} {size : Nat} (h : Blk w b e #[]) (hb : base ≤ b) : w.ownsRow base e size (.slice (some ⟨b, 0, none⟩) 0 0) 0 [] := ⟨by simp, .inr ⟨b, 0, #[], rfl, hb, h, by simp, by simp, by simp, by simp⟩⟩
end Go.Proofs.Ytmgjjgmadiabfaa
