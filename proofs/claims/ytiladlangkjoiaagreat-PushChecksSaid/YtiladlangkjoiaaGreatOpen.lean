/- Arguments that can be read, opened: structs of integers, slices of structs, skies. No condition. -/
import Derived.Test.YtiladlangkjoiaaGreatWideLaw
import Derived.ProofKit
import Derived.Deep.Slices
import Derived.Deep.Fields
import Derived.ChangeSame
namespace Go.Proofs.YtiladlangkjoiaaGreat
open Go.RowKit Go.ChangeShapes Go.WideShapes Go.Deep

section
variable {H : Type} {enc : TypeId × Value → H} {w : World} {base : Nat} {spare : Nat → Bool} {held : Bool}

theorem open_i64 {t : TypeId} {fuel : Nat} {cs : List Value} {x : DataW H × List MemPlace} (ht : Tryz.prog.underlying t = some (.int .i64)) (h : DataW.trod enc Tryz.prog w base spare held fuel t cs = some x) : ∃ n : Int, cs = [.int .i64 n] := by
  obtain ⟨n, hn, _⟩ := DataW.trod_int ht h
  exact ⟨n, hn⟩

theorem open_field {t : TypeId} {fs : Array Field} {fuel : Nat} {cs : List Value} {x : DataW H × List MemPlace} (ht : Tryz.prog.underlying t = some (.struct fs)) (h : DataW.trod enc Tryz.prog w base spare held fuel t cs = some x) :
    cs.length = Tryz.prog.cellsOf t ∧ ∃ n, ∀ (i ty off k : Nat), (fs[i]?).map (fun f => (f.type, f.offset)) = some (ty, off) → Tryz.prog.cellsOf ty = k → ∃ y, DataW.trod enc Tryz.prog w base spare held n ty ((cs.drop off).take k) = some y := by
  obtain ⟨xs, n, _, _, hl, hx, hf⟩ := DataW.trod_struct ht h
  refine ⟨hl, n, fun i ty off k hi hk => ?_⟩
  obtain ⟨f, hi2, hft⟩ := Option.map_eq_some_iff.1 hi
  simp only [Prod.mk.injEq] at hft
  obtain ⟨rfl, rfl⟩ := hft
  subst hk
  have h1 := hf i f hi2
  have : i < xs.length := by rw [hx]; exact (Array.getElem?_eq_some_iff.1 hi2).1
  rw [List.getElem?_eq_getElem this] at h1
  exact ⟨_, h1⟩

theorem len2 {α : Type} {cs : List α} (h : cs.length = 2) : ∃ a0 a1, cs = [a0, a1] := by
  match cs, h with
  | [a0, a1], _ => exact ⟨a0, a1, rfl⟩
theorem len3 {α : Type} {cs : List α} (h : cs.length = 3) : ∃ a0 a1 a2, cs = [a0, a1, a2] := by
  match cs, h with
  | [a0, a1, a2], _ => exact ⟨a0, a1, a2, rfl⟩
theorem len4 {α : Type} {cs : List α} (h : cs.length = 4) : ∃ a0 a1 a2 a3, cs = [a0, a1, a2, a3] := by
  match cs, h with
  | [a0, a1, a2, a3], _ => exact ⟨a0, a1, a2, a3, rfl⟩
theorem cells_int : Tryz.prog.cellsOf 3 = 1 := by kernel_rfl
theorem cells_int64 : Tryz.prog.cellsOf 2 = 1 := by kernel_rfl
theorem cells_vec : Tryz.prog.cellsOf 28 = 2 := by kernel_rfl
theorem cells_span : Tryz.prog.cellsOf 26 = 2 := by kernel_rfl
theorem cells_area : Tryz.prog.cellsOf 32 = 4 := by kernel_rfl
theorem cells_body : Tryz.prog.cellsOf 128 = 3 := by kernel_rfl
theorem cells_vecs : Tryz.prog.cellsOf 126 = 1 := by kernel_rfl
theorem cells_bodies : Tryz.prog.cellsOf 22 = 1 := by kernel_rfl
theorem cells_world : Tryz.prog.cellsOf 24 = 2 := by kernel_rfl
theorem open_vec {fuel : Nat} {cs : List Value} {x : DataW H × List MemPlace} (h : DataW.trod enc Tryz.prog w base spare held fuel 28 cs = some x) : ∃ p : Vec, cs = [.int .i64 p.x, .int .i64 p.y] := by
  obtain ⟨hl, n, hf⟩ := open_field Tryz.underlying28 h
  obtain ⟨a0, a1, rfl⟩ := len2 (hl.trans cells_vec)
  obtain ⟨_, h0⟩ := hf 0 _ 0 _ rfl cells_int64
  obtain ⟨b0, e0⟩ := open_i64 Tryz.underlying2 (show DataW.trod enc Tryz.prog w base spare held n 2 [a0] = some _ from h0)
  obtain rfl : a0 = .int .i64 b0 := by injection e0
  obtain ⟨_, h1⟩ := hf 1 _ 1 _ rfl cells_int64
  obtain ⟨b1, e1⟩ := open_i64 Tryz.underlying2 (show DataW.trod enc Tryz.prog w base spare held n 2 [a1] = some _ from h1)
  obtain rfl : a1 = .int .i64 b1 := by injection e1
  exact ⟨⟨b0, b1⟩, rfl⟩
theorem open_span {fuel : Nat} {cs : List Value} {x : DataW H × List MemPlace} (h : DataW.trod enc Tryz.prog w base spare held fuel 26 cs = some x) : ∃ p : Vec, cs = [.int .i64 p.x, .int .i64 p.y] := by
  obtain ⟨hl, n, hf⟩ := open_field Tryz.underlying26 h
  obtain ⟨a0, a1, rfl⟩ := len2 (hl.trans cells_span)
  obtain ⟨_, h0⟩ := hf 0 _ 0 _ rfl cells_int64
  obtain ⟨b0, e0⟩ := open_i64 Tryz.underlying2 (show DataW.trod enc Tryz.prog w base spare held n 2 [a0] = some _ from h0)
  obtain rfl : a0 = .int .i64 b0 := by injection e0
  obtain ⟨_, h1⟩ := hf 1 _ 1 _ rfl cells_int64
  obtain ⟨b1, e1⟩ := open_i64 Tryz.underlying2 (show DataW.trod enc Tryz.prog w base spare held n 2 [a1] = some _ from h1)
  obtain rfl : a1 = .int .i64 b1 := by injection e1
  exact ⟨⟨b0, b1⟩, rfl⟩
theorem open_area {fuel : Nat} {cs : List Value} {x : DataW H × List MemPlace} (h : DataW.trod enc Tryz.prog w base spare held fuel 32 cs = some x) : ∃ p q : Vec, cs = [.int .i64 p.x, .int .i64 p.y, .int .i64 q.x, .int .i64 q.y] := by
  obtain ⟨hl, n, hf⟩ := open_field Tryz.underlying32 h
  obtain ⟨a0, a1, a2, a3, rfl⟩ := len4 (hl.trans cells_area)
  obtain ⟨_, h0⟩ := hf 0 _ 0 _ rfl cells_span
  obtain ⟨p0, e0⟩ := open_span (show DataW.trod enc Tryz.prog w base spare held n 26 [a0, a1] = some _ from h0)
  injection e0 with e0a e0b; injection e0b with e0b; subst e0a e0b
  obtain ⟨_, h1⟩ := hf 1 _ 2 _ rfl cells_span
  obtain ⟨p2, e2⟩ := open_span (show DataW.trod enc Tryz.prog w base spare held n 26 [a2, a3] = some _ from h1)
  injection e2 with e2a e2b; injection e2b with e2b; subst e2a e2b
  exact ⟨p0, p2, rfl⟩
theorem add_none (b o n : Nat) : (⟨b, o, none⟩ : Addr).add n = ⟨b, o + n, none⟩ := by
  unfold Addr.add
  split
  · rename_i h; subst h; rfl
  · rfl
theorem open_sl {α : Type} [Inhabited α] {sz : Nat} {R : α → Nat → Nat → Prop} {t e : TypeId} (hsz : 0 < sz) (ht : Tryz.prog.underlying t = some (.slice e)) (hC : Tryz.prog.cellsOf e = sz)
    (helt : ∀ (n b o : Nat) (cs : List Value) (y : DataW H × List MemPlace), (∀ i, i < sz → w.cell? ⟨b, o + i, none⟩ = cs[i]?) → cs.length = sz → DataW.trod enc Tryz.prog w base (fun _ => true) true n e cs = some y → ∃ x : α, R x b o)
    {fuel : Nat} {cs : List Value} {x : DataW H × List MemPlace} (h : DataW.trod enc Tryz.prog w base (fun _ => true) true fuel t cs = some x) : ∃ A n c l, cs = [.slice A n c] ∧ SlR sz R A n l := by
  rcases open_slice ht h with ⟨rfl, _⟩ | ⟨a, len, cap, m, n, D, Pl, rfl, _, hl, hm, hmm, _, hi⟩
  · exact ⟨none, 0, 0, [], rfl, SlR.nil _ _ _⟩
  · rw [hC] at hi
    have hmc : m = cap := by simpa using hmm
    subst hmc
    rcases Nat.eq_zero_or_pos len with h0 | h0
    · subst h0; exact ⟨some a, 0, m, [], rfl, SlR.nil _ _ _⟩
    · have hsp : ∃ b off, a = ⟨b, off, none⟩ := by
        obtain ⟨cs', hc, _⟩ := hi 0 (by omega)
        obtain ⟨_, hcl, hat⟩ := World.cells?_some hc
        have h1 := hat 0 hsz
        have h2 : ∃ v, cs'[0]? = some v := ⟨cs'[0]'(by omega), List.getElem?_eq_getElem (by omega)⟩
        obtain ⟨v, hv⟩ := h2
        rw [hv] at h1
        obtain ⟨b, off, sp⟩ := a
        cases sp with
        | none => exact ⟨b, off, rfl⟩
        | some s =>
          exfalso
          have : ((⟨b, off, some s⟩ : Addr).add (0 * sz)).add 0 = ⟨b, off, some s⟩ := by simp [Addr.add]
          rw [this] at h1
          simp only [World.cell?] at h1
          split at h1 <;> simp at h1
      obtain ⟨b, off, rfl⟩ := hsp
      have hx : ∀ i, i < len → ∃ x : α, R x b (off + i * sz) := by
        intro i hil
        obtain ⟨cs', hc, ht'⟩ := hi i (by omega)
        obtain ⟨_, hcl, hat⟩ := World.cells?_some hc
        refine helt _ b (off + i * sz) cs' _ (fun j hj => ?_) hcl ht'
        have := hat j hj
        rw [add_none, add_none] at this
        exact this
      obtain ⟨f, hf⟩ := choose_lt hx
      refine ⟨some ⟨b, off, none⟩, len, m, (List.range len).map f, rfl, by simp, by unfold maxLen at hm; omega, .inr ⟨b, off, rfl, fun k hk => ?_⟩⟩
      simp only [List.length_map, List.length_range] at hk
      simpa using hf k hk
theorem elt_vec (n b o : Nat) (cs : List Value) (y : DataW H × List MemPlace) (hc : ∀ i, i < 2 → w.cell? ⟨b, o + i, none⟩ = cs[i]?) (_ : cs.length = 2) (h : DataW.trod enc Tryz.prog w base (fun _ => true) true n 28 cs = some y) : ∃ x, vecAt w x b o := by
  obtain ⟨p, rfl⟩ := open_vec h
  exact ⟨p, hc 0 (by omega), hc 1 (by omega)⟩
instance : Inhabited Vec := ⟨⟨0, 0⟩⟩
instance : Inhabited Stn := ⟨⟨0, default⟩⟩
instance : Inhabited Cat := ⟨⟨0, 0, 0⟩⟩
instance : Inhabited St := ⟨⟨0, 0, 0, 0⟩⟩
instance : Inhabited Sight := ⟨⟨0, 0, 0, 0, 0, 0, 0, 0, 0⟩⟩
instance : Inhabited Body := ⟨⟨0, 0, []⟩⟩
end
section
variable {H : Type} {enc : TypeId × Value → H} {w : World} {base : Nat}
theorem open_vecs {fuel : Nat} {cs : List Value} {x : DataW H × List MemPlace} (h : DataW.trod enc Tryz.prog w base (fun _ => true) true fuel 126 cs = some x) : ∃ A n c l, cs = [.slice A n c] ∧ Vecs w A n l :=
  open_sl (by omega) Tryz.underlying126 cells_vec elt_vec h
theorem elt_body (n b o : Nat) (cs : List Value) (y : DataW H × List MemPlace) (hc : ∀ i, i < 3 → w.cell? ⟨b, o + i, none⟩ = cs[i]?) (_ : cs.length = 3) (h : DataW.trod enc Tryz.prog w base (fun _ => true) true n 128 cs = some y) : ∃ x, bodyAt w x b o := by
  obtain ⟨hl, n, hf⟩ := open_field Tryz.underlying128 h
  obtain ⟨a0, a1, a2, rfl⟩ := len3 (hl.trans cells_body)
  obtain ⟨_, h0⟩ := hf 0 _ 0 _ rfl cells_int64
  obtain ⟨b0, e0⟩ := open_i64 Tryz.underlying2 (show DataW.trod enc Tryz.prog w base (fun _ => true) true n 2 [a0] = some _ from h0)
  obtain rfl : a0 = .int .i64 b0 := by injection e0
  obtain ⟨_, h1⟩ := hf 1 _ 1 _ rfl cells_int64
  obtain ⟨b1, e1⟩ := open_i64 Tryz.underlying2 (show DataW.trod enc Tryz.prog w base (fun _ => true) true n 2 [a1] = some _ from h1)
  obtain rfl : a1 = .int .i64 b1 := by injection e1
  obtain ⟨_, h2⟩ := hf 2 _ 2 _ rfl cells_vecs
  obtain ⟨A, m, c, l, e2, hv⟩ := open_vecs (show DataW.trod enc Tryz.prog w base (fun _ => true) true n 126 [a2] = some _ from h2)
  obtain rfl : a2 = .slice A m c := by injection e2
  exact ⟨⟨b0, b1, l⟩, hc 0 (by omega), hc 1 (by omega), A, m, c, hc 2 (by omega), hv⟩
theorem open_bodies {fuel : Nat} {cs : List Value} {x : DataW H × List MemPlace} (h : DataW.trod enc Tryz.prog w base (fun _ => true) true fuel 22 cs = some x) : ∃ A n c l, cs = [.slice A n c] ∧ Bodies w A n l :=
  open_sl (by omega) Tryz.underlying22 cells_body elt_body h
theorem open_world {fuel : Nat} {cs : List Value} {x : DataW H × List MemPlace} (h : DataW.trod enc Tryz.prog w base (fun _ => true) true fuel 24 cs = some x) : ∃ A n c l home, cs = [.slice A n c, .int .i64 home] ∧ Bodies w A n l := by
  obtain ⟨hl, n, hf⟩ := open_field Tryz.underlying24 h
  obtain ⟨a0, a1, rfl⟩ := len2 (hl.trans cells_world)
  obtain ⟨_, h0⟩ := hf 0 _ 0 _ rfl cells_bodies
  obtain ⟨A, m, c, l, e0, hv⟩ := open_bodies (show DataW.trod enc Tryz.prog w base (fun _ => true) true n 22 [a0] = some _ from h0)
  obtain rfl : a0 = .slice A m c := by injection e0
  obtain ⟨_, h1⟩ := hf 1 _ 1 _ rfl cells_int
  obtain ⟨b1, e1⟩ := open_i64 Tryz.underlying3 (show DataW.trod enc Tryz.prog w base (fun _ => true) true n 3 [a1] = some _ from h1)
  obtain rfl : a1 = .int .i64 b1 := by injection e1
  exact ⟨A, m, c, l, b1, rfl, hv⟩
end
end Go.Proofs.YtiladlangkjoiaaGreat
