/- Small tools for the walks of the laws that make their arguments by numbers. No condition. -/
import Derived.Test.YtfniicgoeljmdaaGreatMadeFour
import Derived.Test.YtfniicgoeljmdaaGreatSlices
import Derived.Test.YtfniicgoeljmdaaGreatSplit
namespace Go.Proofs.YtfniicgoeljmdaaGreat
open Go.RowKit

section
variable {P : Program} {S : World → Prop}
theorem xe_callV {o : Oper} {a : Act} {F : World → Prop} {f : FuncId} {args : Array Value} {n0 g : Nat} {K : Act → (World → Prop) → Prop} (G : Value → Prop) (F' : Value → World → Prop) (hg : o.guard = none) (hst : ∀ v, Stable (F' v)) (hS : ∀ v w, F' v w → S w)
    (hrun : ∀ w, F w → (execOp a.eval o).run P w = .ok (.enter f args) w) (hc : ∀ w, F w → Calls P f args w fun e w' => ∃ v, e = .returned v ∧ G v ∧ F' v w') (h : ∀ v, G v → K (a.put o.dst v) (F' v)) : EffC P S false n0 g o a F K :=
  ⟨hg, fun w hw => by rw [hrun w hw]; exact (hc w hw).mono fun e w' ⟨v, he, hv, hx⟩ => ⟨v, he, by simp, F' v, hst v, hS v, hx, h v hv⟩⟩
end
theorem smallB.ok {b : Bx} (h : smallB b) : bxErr b = 0 := by
  rw [bxErr_iff]
  unfold smallB at h
  unfold BxOk Sm
  omega
theorem inBx.holds {b : Bx} {s : St} (h : inBx b s) : holdsB b s = true := holdsB_iff.2 h
def stC4 (s : St) : List Value := [.int .i64 s.x, .int .i64 s.y, .int .i64 s.u, .int .i64 s.v]
theorem st_read (w : World) (x : St) (b o : Nat) (h : ∀ i u, (stC4 x)[i]? = some u → w.cell? ⟨b, o + i, none⟩ = some u) : stAt w x b o := ⟨h 0 _ rfl, h 1 _ rfl, h 2 _ rfl, h 3 _ rfl⟩
theorem st_slice {w : World} {b : Nat} {t : TypeId} (l : List St) (h : Blk w b t (l.flatMap stC4).toArray) (hn : l.length ≤ 9223372036854775807) : Sts w (some ⟨b, 0, none⟩) l.length l := sl_blk (fun _ => rfl) (fun x b o => st_read w x b o) h hn
end Go.Proofs.YtfniicgoeljmdaaGreat
