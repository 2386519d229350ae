/- Operations of a drawn region that are known by what holds of their values: appends, slices. No condition. A region that draws its order: effects in whatever order they allow, known by what holds of their values, then a tail. No condition. -/
import Derived.Test.YtfniicgoeljmdaaGreatGenD
import Derived.Test.YtfniicgoeljmdaaGreatOwn
namespace Go.Proofs.YtfniicgoeljmdaaGreat
open Go.RowKit

section
variable {P : Program}
theorem runs_append {w : World} {o : Oper} {a : Act} (s x : Operand) (t : TypeId)
    (ho : o.op = .call { callee := .builtin .append, args := #[s, x], argTypes := #[t, t] })
    (base : Nat) (e : TypeId) (i : TypeInfo) (z : Value) (size bytes : Nat) (ht : P.underlying t = some (.slice e)) (hi : P.info? e = some i) (hz : i.zero = some z)
    (hsize : i.size = size) (hby : i.bytes = bytes) (hzs : z.cells.size = size) (hsz : 0 < size)
    (v : Value) (n : Nat) (xs : List Value) (hs : a.eval s = v) (hown : w.ownsRow base e size v n xs)
    (A : Option Addr) (m c : Nat) (news : List Value) (hx : a.eval x = .slice A m c) (hl : news.length = m * size) (hnews : m = 0 ∨ ∃ ad, A = some ad ∧ ∀ j u, news[j]? = some u → w.cell? (ad.add j) = some u) (h1 : ∀ u ∈ news, u.oneCell' = true)
    (h63 : n + m ≤ maxLen) (hbytes : (n + m) * bytes ≤ 140737488355328) (hbase : base ≤ w.heap.size) {G : Value → World → Prop}
    (h : ∀ v' w', w'.ownsRow base e size v' (n + m) (xs ++ news) → w.grownBy w' v.ownBlock → (v' = .slice none 0 0 → v = .slice none 0 0) → G v' w') : RunsTo P G ((execOp a.eval o).run P w) := by
  rcases hnews with rfl | ⟨ad, rfl, hnews⟩
  · have hn : news = [] := List.eq_nil_of_length_eq_zero (by simpa using hl)
    subst hn
    have hrun := run_append_none (P := P) (w := w) base t o.type e i size ht hi v n xs hown A c
    have h2 := h v w (by simpa using hown) ⟨rfl, rfl, rfl, Nat.le_refl _, fun _ _ _ => rfl⟩ id
    simpa [execOp, ho, resolve, invoke, builtin, hs, hx, hrun, Result.andThen, RunsTo] using h2
  · obtain ⟨v', w', hrun, h2, h3, h4⟩ := run_append_own (P := P) (w := w) base t o.type e i z size bytes ht hi hz hsize hby hzs hsz v n xs hown ad m c news hl hnews h1 h63 hbytes hbase
    have h5 := h v' w' h2 h3 fun e => (h4.1 e).1
    simpa [execOp, ho, resolve, invoke, builtin, hs, hx, hrun, Result.andThen, RunsTo] using h5
/-- An operation whose value is known, that leaves the world. -/
theorem runs_val {w : World} {o : Oper} {a : Act} {v : Value} {G : Value → World → Prop} (hrun : (execOp a.eval o).run P w = .ok (.value v) w) (h : G v w) : RunsTo P G ((execOp a.eval o).run P w) := by
  rw [hrun]; exact h
theorem runs_to {w w1 : World} {o : Oper} {a : Act} {v : Value} {G : Value → World → Prop} (hrun : (execOp a.eval o).run P w = .ok (.value v) w1) (h : G v w1) : RunsTo P G ((execOp a.eval o).run P w) := by
  rw [hrun]; exact h
theorem runs_call {w : World} {o : Oper} {a : Act} {f : FuncId} {args : Array Value} {G : Value → World → Prop} (hrun : (execOp a.eval o).run P w = .ok (.enter f args) w) (h : Calls P f args w fun e w' => ∃ v, e = .returned v ∧ G v w') : RunsTo P G ((execOp a.eval o).run P w) := by
  rw [hrun]; exact h
end
theorem own_empty {w : World} {base b : Nat} {e : TypeId} {size : Nat} (h : Blk w b e #[]) (hb : base ≤ b) : w.ownsRow base e size (.slice (some ⟨b, 0, none⟩) 0 0) 0 [] := ⟨by simp, .inr ⟨b, 0, #[], rfl, hb, h, by simp, by simp, by simp, by simp⟩⟩
end Go.Proofs.YtfniicgoeljmdaaGreat

namespace Go.Proofs.YtfniicgoeljmdaaGreat
open Go.RowKit

section
variable {P : Program} {Q : Exit → Act → World → Prop} {S : World → Prop}
theorem rel_goT {l : List Oper} (sk : List SK) (es : List (SK × GT)) {F : World → Prop} {a' : Act} {T : List Oper} (hst : Stable F) (hFS : ∀ w, F w → S w) (hes : es.map (·.1) = sk) (hok : skOk l.toArray sk = true)
    (h1 : obF P l F es a' es) (hQ : ∀ val, TG P S Q T (putP l val (sk.map (·.j)) a') fun w => F w ∧ finF es val w es) : AD P l.toArray S Q T (sk.map (·.j)).length (sk.map (·.j)) a' F := by
  have hnd : (es.map (·.1.j)).Nodup := by
    have := hok
    simp only [skOk, Bool.and_eq_true, decide_eq_true_eq] at this
    have h2 := this.1.2
    rw [← hes, List.map_map] at h2
    exact h2
  have hs : ∀ s ∈ sk, ∃ g, (s, g) ∈ es ∧ getG es s.j = g := fun s hs => by
    rw [← hes] at hs
    obtain ⟨⟨s', g⟩, hm, rfl⟩ := List.mem_map.1 hs
    exact ⟨g, hm, getG_spec hnd hm⟩
  refine ad_rel sk (getG es) hok hst hFS (fun s hss => ?_) (fun s hss => ?_) (fun s hss val w hw hu => ?_) fun val => ?_
  · obtain ⟨g, hm, e⟩ := hs s hss
    rw [e]
    exact (obF_to h1 s g hm).1
  · obtain ⟨g, hm, e⟩ := hs s hss
    rw [e]
    exact fun val val' hv v w hg => (obF_to h1 s g hm).2.1 val val' v w (useEq_of hv) hg
  · obtain ⟨g, hm, e⟩ := hs s hss
    rw [e, putP_eq, ← pick1_eq]
    refine ((obF_to h1 s g hm).2.2 val w hw (useF_of hu)).mono fun v w1 h => ⟨h.1, ?_⟩
    have h2 := h.2
    cases hsp : s.spoil with
    | none => rw [hsp] at h2; exact h2
    | some lk =>
      obtain ⟨a, k⟩ := lk
      rw [hsp] at h2
      exact ⟨h2.1, keepF_to h2.2⟩
  · have h2 := hQ val
    rw [← putP_eq] at h2
    refine TG.mono _ (fun w hw => ⟨hw.1, finF_of fun s g hmem hall => ?_⟩) h2
    have hss : s ∈ sk := by rw [← hes]; exact List.mem_map.2 ⟨(s, g), hmem, rfl⟩
    have h3 := hw.2 s hss (by
      rw [← hes, List.all_map]
      exact hall)
    rw [getG_spec hnd hmem] at h3
    exact h3
/-- As wp_region_rel, with a tail. -/
theorem wp_region_relT {id : Nat} {l : List Oper} (Bd : List Nat) (sk : List SK) (es : List (SK × GT)) (Tl : List Nat) (S F : World → Prop) {a : Act} {w : World} (hst : Stable F) (hFS : ∀ w, F w → S w) (hS : F w.drew) (hm : P.follows .mixedOrders = true) (hes : es.map (·.1) = sk)
    (hok : (genD l.toArray Bd (sk.map (·.j)) Tl && skOk l.toArray sk) = true)
    (h : BL P l.toArray S (pick l Bd) a (fun a' => obF P l F es a' es ∧ ∀ val, TG P S Q (pick l Tl) (putP l val (sk.map (·.j)) a') fun w => F w ∧ finF es val w es)) : (Code.region id l.toArray true).wp P Q a w := by
  rw [Bool.and_eq_true] at hok
  have hgo : ∀ a', (obF P l F es a' es ∧ ∀ val, TG P S Q (pick l Tl) (putP l val (sk.map (·.j)) a') fun w => F w ∧ finF es val w es) → AD P l.toArray S Q (pick l Tl) (sk.map (·.j)).length (sk.map (·.j)) a' F := by
    intro a' ha'
    exact rel_goT sk es hst hFS hes hok.2 ha'.1 ha'.2
  have h2 : BL P l.toArray S (pick l Bd) a (fun a' => AD P l.toArray S Q (pick l Tl) (sk.map (·.j)).length (sk.map (·.j)) a' F) := BL.mono _ _ _ _ hgo h
  have h3 := hok.1
  clear hgo hok h
  generalize sk.map (·.j) = al at *
  exact wp_region_D Bd al Tl S F hst hFS hS hm h3 h2
end
end Go.Proofs.YtfniicgoeljmdaaGreat
