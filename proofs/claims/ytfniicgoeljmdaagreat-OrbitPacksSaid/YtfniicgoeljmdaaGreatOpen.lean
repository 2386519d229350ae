/- Arguments that can be read, opened: structs of integers, slices of structs, skies. No condition. -/
import Derived.Test.YtfniicgoeljmdaaGreatRootLaw
import Derived.ProofKit
import Derived.Deep.Slices
import Derived.Deep.Fields
import Derived.ChangeSame
namespace Go.Proofs.YtfniicgoeljmdaaGreat
open Go.RowKit Go.ChangeShapes Go.WideShapes Go.Deep

section
variable {H : Type} {enc : TypeId × Value → H} {w : World} {base : Nat} {spare : Nat → Bool} {held : Bool}

theorem open_i64 {t : TypeId} {fuel : Nat} {cs : List Value} {x : DataW H × List MemPlace} (ht : Tryz.prog.underlying t = some (.int .i64)) (h : DataW.trod enc Tryz.prog w base spare held fuel t cs = some x) : ∃ n : Int, cs = [.int .i64 n] := by
  obtain ⟨n, hn, _⟩ := DataW.trod_int ht h
  exact ⟨n, hn⟩

theorem open_field {t : TypeId} {fs : Array Field} {fuel : Nat} {cs : List Value} {x : DataW H × List MemPlace} (ht : Tryz.prog.underlying t = some (.struct fs)) (h : DataW.trod enc Tryz.prog w base spare held fuel t cs = some x) :
    cs.length = Tryz.prog.cellsOf t ∧ ∃ n, ∀ (i ty off k : Nat), (fs[i]?).map (fun f => (f.type, f.offset)) = some (ty, off) → Tryz.prog.cellsOf ty = k → ∃ y, DataW.trod enc Tryz.prog w base spare held n ty ((cs.drop off).take k) = some y := by
  obtain ⟨xs, n, _, _, hl, hx, hf⟩ := DataW.trod_struct ht h
  refine ⟨hl, n, fun i ty off k hi hk => ?_⟩
  obtain ⟨f, hi2, hft⟩ := Option.map_eq_some_iff.1 hi
  simp only [Prod.mk.injEq] at hft
  obtain ⟨rfl, rfl⟩ := hft
  subst hk
  have h1 := hf i f hi2
  have : i < xs.length := by rw [hx]; exact (Array.getElem?_eq_some_iff.1 hi2).1
  rw [List.getElem?_eq_getElem this] at h1
  exact ⟨_, h1⟩

theorem len2 {α : Type} {cs : List α} (h : cs.length = 2) : ∃ a0 a1, cs = [a0, a1] := by
  match cs, h with
  | [a0, a1], _ => exact ⟨a0, a1, rfl⟩
theorem len3 {α : Type} {cs : List α} (h : cs.length = 3) : ∃ a0 a1 a2, cs = [a0, a1, a2] := by
  match cs, h with
  | [a0, a1, a2], _ => exact ⟨a0, a1, a2, rfl⟩
theorem len4 {α : Type} {cs : List α} (h : cs.length = 4) : ∃ a0 a1 a2 a3, cs = [a0, a1, a2, a3] := by
  match cs, h with
  | [a0, a1, a2, a3], _ => exact ⟨a0, a1, a2, a3, rfl⟩
theorem len9 {α : Type} {cs : List α} (h : cs.length = 9) : ∃ a0 a1 a2 a3 a4 a5 a6 a7 a8, cs = [a0, a1, a2, a3, a4, a5, a6, a7, a8] := by
  match cs, h with
  | [a0, a1, a2, a3, a4, a5, a6, a7, a8], _ => exact ⟨a0, a1, a2, a3, a4, a5, a6, a7, a8, rfl⟩
theorem cells_int : Tryz.prog.cellsOf 3 = 1 := by kernel_rfl
theorem cells_int64 : Tryz.prog.cellsOf 2 = 1 := by kernel_rfl
theorem cells_vec : Tryz.prog.cellsOf 85 = 2 := by kernel_rfl
theorem cells_span : Tryz.prog.cellsOf 26 = 2 := by kernel_rfl
theorem cells_stn : Tryz.prog.cellsOf 146 = 3 := by kernel_rfl
theorem cells_cat : Tryz.prog.cellsOf 148 = 3 := by kernel_rfl
theorem cells_sight : Tryz.prog.cellsOf 87 = 9 := by kernel_rfl
theorem cells_body : Tryz.prog.cellsOf 97 = 3 := by kernel_rfl
theorem cells_vecs : Tryz.prog.cellsOf 95 = 1 := by kernel_rfl
theorem cells_bodies : Tryz.prog.cellsOf 22 = 1 := by kernel_rfl
theorem cells_stns : Tryz.prog.cellsOf 50 = 1 := by kernel_rfl
theorem cells_cats : Tryz.prog.cellsOf 51 = 1 := by kernel_rfl
theorem cells_world : Tryz.prog.cellsOf 24 = 2 := by kernel_rfl
theorem cells_sky : Tryz.prog.cellsOf 53 = 4 := by kernel_rfl
theorem open_vec {fuel : Nat} {cs : List Value} {x : DataW H × List MemPlace} (h : DataW.trod enc Tryz.prog w base spare held fuel 85 cs = some x) : ∃ p : Vec, cs = [.int .i64 p.x, .int .i64 p.y] := by
  obtain ⟨hl, n, hf⟩ := open_field Tryz.underlying85 h
  obtain ⟨a0, a1, rfl⟩ := len2 (hl.trans cells_vec)
  obtain ⟨_, h0⟩ := hf 0 _ 0 _ rfl cells_int64
  obtain ⟨b0, e0⟩ := open_i64 Tryz.underlying2 (show DataW.trod enc Tryz.prog w base spare held n 2 [a0] = some _ from h0)
  obtain rfl : a0 = .int .i64 b0 := by injection e0
  obtain ⟨_, h1⟩ := hf 1 _ 1 _ rfl cells_int64
  obtain ⟨b1, e1⟩ := open_i64 Tryz.underlying2 (show DataW.trod enc Tryz.prog w base spare held n 2 [a1] = some _ from h1)
  obtain rfl : a1 = .int .i64 b1 := by injection e1
  exact ⟨⟨b0, b1⟩, rfl⟩
theorem open_span {fuel : Nat} {cs : List Value} {x : DataW H × List MemPlace} (h : DataW.trod enc Tryz.prog w base spare held fuel 26 cs = some x) : ∃ p : Vec, cs = [.int .i64 p.x, .int .i64 p.y] := by
  obtain ⟨hl, n, hf⟩ := open_field Tryz.underlying26 h
  obtain ⟨a0, a1, rfl⟩ := len2 (hl.trans cells_span)
  obtain ⟨_, h0⟩ := hf 0 _ 0 _ rfl cells_int64
  obtain ⟨b0, e0⟩ := open_i64 Tryz.underlying2 (show DataW.trod enc Tryz.prog w base spare held n 2 [a0] = some _ from h0)
  obtain rfl : a0 = .int .i64 b0 := by injection e0
  obtain ⟨_, h1⟩ := hf 1 _ 1 _ rfl cells_int64
  obtain ⟨b1, e1⟩ := open_i64 Tryz.underlying2 (show DataW.trod enc Tryz.prog w base spare held n 2 [a1] = some _ from h1)
  obtain rfl : a1 = .int .i64 b1 := by injection e1
  exact ⟨⟨b0, b1⟩, rfl⟩
theorem open_stn {fuel : Nat} {cs : List Value} {x : DataW H × List MemPlace} (h : DataW.trod enc Tryz.prog w base spare held fuel 146 cs = some x) : ∃ p : Stn, cs = [.int .i64 p.id, .int .i64 p.off.x, .int .i64 p.off.y] := by
  obtain ⟨hl, n, hf⟩ := open_field Tryz.underlying146 h
  obtain ⟨a0, a1, a2, rfl⟩ := len3 (hl.trans cells_stn)
  obtain ⟨_, h0⟩ := hf 0 _ 0 _ rfl cells_int
  obtain ⟨b0, e0⟩ := open_i64 Tryz.underlying3 (show DataW.trod enc Tryz.prog w base spare held n 3 [a0] = some _ from h0)
  obtain rfl : a0 = .int .i64 b0 := by injection e0
  obtain ⟨_, h1⟩ := hf 1 _ 1 _ rfl cells_vec
  obtain ⟨p1, e1⟩ := open_vec (show DataW.trod enc Tryz.prog w base spare held n 85 [a1, a2] = some _ from h1)
  injection e1 with e1a e1b; injection e1b with e1b; subst e1a e1b
  exact ⟨⟨b0, p1⟩, rfl⟩
theorem open_cat {fuel : Nat} {cs : List Value} {x : DataW H × List MemPlace} (h : DataW.trod enc Tryz.prog w base spare held fuel 148 cs = some x) : ∃ p : Cat, cs = [.int .i64 p.version, .int .i64 p.lo, .int .i64 p.hi] := by
  obtain ⟨hl, n, hf⟩ := open_field Tryz.underlying148 h
  obtain ⟨a0, a1, a2, rfl⟩ := len3 (hl.trans cells_cat)
  obtain ⟨_, h0⟩ := hf 0 _ 0 _ rfl cells_int
  obtain ⟨b0, e0⟩ := open_i64 Tryz.underlying3 (show DataW.trod enc Tryz.prog w base spare held n 3 [a0] = some _ from h0)
  obtain rfl : a0 = .int .i64 b0 := by injection e0
  obtain ⟨_, h1⟩ := hf 1 _ 1 _ rfl cells_span
  obtain ⟨p1, e1⟩ := open_span (show DataW.trod enc Tryz.prog w base spare held n 26 [a1, a2] = some _ from h1)
  injection e1 with e1a e1b; injection e1b with e1b; subst e1a e1b
  exact ⟨⟨b0, p1.x, p1.y⟩, rfl⟩
theorem open_sight {fuel : Nat} {cs : List Value} {x : DataW H × List MemPlace} (h : DataW.trod enc Tryz.prog w base spare held fuel 87 cs = some x) : ∃ p : Sight, cs = [.int .i64 p.kind, .int .i64 p.station, .int .i64 p.catalog, .int .i64 p.tick, .int .i64 p.dx, .int .i64 p.dy, .int .i64 p.err, .int .i64 p.lo, .int .i64 p.hi] := by
  obtain ⟨hl, n, hf⟩ := open_field Tryz.underlying87 h
  obtain ⟨a0, a1, a2, a3, a4, a5, a6, a7, a8, rfl⟩ := len9 (hl.trans cells_sight)
  obtain ⟨_, h0⟩ := hf 0 _ 0 _ rfl cells_int
  obtain ⟨b0, e0⟩ := open_i64 Tryz.underlying3 (show DataW.trod enc Tryz.prog w base spare held n 3 [a0] = some _ from h0)
  obtain rfl : a0 = .int .i64 b0 := by injection e0
  obtain ⟨_, h1⟩ := hf 1 _ 1 _ rfl cells_int
  obtain ⟨b1, e1⟩ := open_i64 Tryz.underlying3 (show DataW.trod enc Tryz.prog w base spare held n 3 [a1] = some _ from h1)
  obtain rfl : a1 = .int .i64 b1 := by injection e1
  obtain ⟨_, h2⟩ := hf 2 _ 2 _ rfl cells_int
  obtain ⟨b2, e2⟩ := open_i64 Tryz.underlying3 (show DataW.trod enc Tryz.prog w base spare held n 3 [a2] = some _ from h2)
  obtain rfl : a2 = .int .i64 b2 := by injection e2
  obtain ⟨_, h3⟩ := hf 3 _ 3 _ rfl cells_int64
  obtain ⟨b3, e3⟩ := open_i64 Tryz.underlying2 (show DataW.trod enc Tryz.prog w base spare held n 2 [a3] = some _ from h3)
  obtain rfl : a3 = .int .i64 b3 := by injection e3
  obtain ⟨_, h4⟩ := hf 4 _ 4 _ rfl cells_vec
  obtain ⟨p4, e4⟩ := open_vec (show DataW.trod enc Tryz.prog w base spare held n 85 [a4, a5] = some _ from h4)
  injection e4 with e4a e4b; injection e4b with e4b; subst e4a e4b
  obtain ⟨_, h5⟩ := hf 5 _ 6 _ rfl cells_int64
  obtain ⟨b6, e6⟩ := open_i64 Tryz.underlying2 (show DataW.trod enc Tryz.prog w base spare held n 2 [a6] = some _ from h5)
  obtain rfl : a6 = .int .i64 b6 := by injection e6
  obtain ⟨_, h6⟩ := hf 6 _ 7 _ rfl cells_int64
  obtain ⟨b7, e7⟩ := open_i64 Tryz.underlying2 (show DataW.trod enc Tryz.prog w base spare held n 2 [a7] = some _ from h6)
  obtain rfl : a7 = .int .i64 b7 := by injection e7
  obtain ⟨_, h7⟩ := hf 7 _ 8 _ rfl cells_int64
  obtain ⟨b8, e8⟩ := open_i64 Tryz.underlying2 (show DataW.trod enc Tryz.prog w base spare held n 2 [a8] = some _ from h7)
  obtain rfl : a8 = .int .i64 b8 := by injection e8
  exact ⟨⟨b0, b1, b2, b3, p4.x, p4.y, b6, b7, b8⟩, rfl⟩

theorem add_none (b o n : Nat) : (⟨b, o, none⟩ : Addr).add n = ⟨b, o + n, none⟩ := by
  unfold Addr.add
  split
  · rename_i h; subst h; rfl
  · rfl
theorem open_sl {α : Type} [Inhabited α] {sz : Nat} {R : α → Nat → Nat → Prop} {t e : TypeId} (hsz : 0 < sz) (ht : Tryz.prog.underlying t = some (.slice e)) (hC : Tryz.prog.cellsOf e = sz)
    (helt : ∀ (n b o : Nat) (cs : List Value) (y : DataW H × List MemPlace), (∀ i, i < sz → w.cell? ⟨b, o + i, none⟩ = cs[i]?) → cs.length = sz → DataW.trod enc Tryz.prog w base (fun _ => true) true n e cs = some y → ∃ x : α, R x b o)
    {fuel : Nat} {cs : List Value} {x : DataW H × List MemPlace} (h : DataW.trod enc Tryz.prog w base (fun _ => true) true fuel t cs = some x) : ∃ A n c l, cs = [.slice A n c] ∧ SlR sz R A n l := by
  rcases open_slice ht h with ⟨rfl, _⟩ | ⟨a, len, cap, m, n, D, Pl, rfl, _, hl, hm, hmm, _, hi⟩
  · exact ⟨none, 0, 0, [], rfl, SlR.nil _ _ _⟩
  · rw [hC] at hi
    have hmc : m = cap := by simpa using hmm
    subst hmc
    rcases Nat.eq_zero_or_pos len with h0 | h0
    · subst h0; exact ⟨some a, 0, m, [], rfl, SlR.nil _ _ _⟩
    · have hsp : ∃ b off, a = ⟨b, off, none⟩ := by
        obtain ⟨cs', hc, _⟩ := hi 0 (by omega)
        obtain ⟨_, hcl, hat⟩ := World.cells?_some hc
        have h1 := hat 0 hsz
        have h2 : ∃ v, cs'[0]? = some v := ⟨cs'[0]'(by omega), List.getElem?_eq_getElem (by omega)⟩
        obtain ⟨v, hv⟩ := h2
        rw [hv] at h1
        obtain ⟨b, off, sp⟩ := a
        cases sp with
        | none => exact ⟨b, off, rfl⟩
        | some s =>
          exfalso
          have : ((⟨b, off, some s⟩ : Addr).add (0 * sz)).add 0 = ⟨b, off, some s⟩ := by simp [Addr.add]
          rw [this] at h1
          simp only [World.cell?] at h1
          split at h1 <;> simp at h1
      obtain ⟨b, off, rfl⟩ := hsp
      have hx : ∀ i, i < len → ∃ x : α, R x b (off + i * sz) := by
        intro i hil
        obtain ⟨cs', hc, ht'⟩ := hi i (by omega)
        obtain ⟨_, hcl, hat⟩ := World.cells?_some hc
        refine helt _ b (off + i * sz) cs' _ (fun j hj => ?_) hcl ht'
        have := hat j hj
        rw [add_none, add_none] at this
        exact this
      obtain ⟨f, hf⟩ := choose_lt hx
      refine ⟨some ⟨b, off, none⟩, len, m, (List.range len).map f, rfl, by simp, by unfold maxLen at hm; omega, .inr ⟨b, off, rfl, fun k hk => ?_⟩⟩
      simp only [List.length_map, List.length_range] at hk
      simpa using hf k hk
theorem elt_vec (n b o : Nat) (cs : List Value) (y : DataW H × List MemPlace) (hc : ∀ i, i < 2 → w.cell? ⟨b, o + i, none⟩ = cs[i]?) (_ : cs.length = 2) (h : DataW.trod enc Tryz.prog w base (fun _ => true) true n 85 cs = some y) : ∃ x, vecAt w x b o := by
  obtain ⟨p, rfl⟩ := open_vec h
  exact ⟨p, hc 0 (by omega), hc 1 (by omega)⟩
theorem elt_stn (n b o : Nat) (cs : List Value) (y : DataW H × List MemPlace) (hc : ∀ i, i < 3 → w.cell? ⟨b, o + i, none⟩ = cs[i]?) (_ : cs.length = 3) (h : DataW.trod enc Tryz.prog w base (fun _ => true) true n 146 cs = some y) : ∃ x, stnAt w x b o := by
  obtain ⟨p, rfl⟩ := open_stn h
  exact ⟨p, hc 0 (by omega), hc 1 (by omega), hc 2 (by omega)⟩
theorem elt_cat (n b o : Nat) (cs : List Value) (y : DataW H × List MemPlace) (hc : ∀ i, i < 3 → w.cell? ⟨b, o + i, none⟩ = cs[i]?) (_ : cs.length = 3) (h : DataW.trod enc Tryz.prog w base (fun _ => true) true n 148 cs = some y) : ∃ x, catAt w x b o := by
  obtain ⟨p, rfl⟩ := open_cat h
  exact ⟨p, hc 0 (by omega), hc 1 (by omega), hc 2 (by omega)⟩
theorem elt_sight (n b o : Nat) (cs : List Value) (y : DataW H × List MemPlace) (hc : ∀ i, i < 9 → w.cell? ⟨b, o + i, none⟩ = cs[i]?) (_ : cs.length = 9) (h : DataW.trod enc Tryz.prog w base (fun _ => true) true n 87 cs = some y) : ∃ x, sightAt w x b o := by
  obtain ⟨p, rfl⟩ := open_sight h
  exact ⟨p, hc 0 (by omega), hc 1 (by omega), hc 2 (by omega), hc 3 (by omega), hc 4 (by omega), hc 5 (by omega), hc 6 (by omega), hc 7 (by omega), hc 8 (by omega)⟩
instance : Inhabited Vec := ⟨⟨0, 0⟩⟩
instance : Inhabited Stn := ⟨⟨0, default⟩⟩
instance : Inhabited Cat := ⟨⟨0, 0, 0⟩⟩
instance : Inhabited St := ⟨⟨0, 0, 0, 0⟩⟩
instance : Inhabited Sight := ⟨⟨0, 0, 0, 0, 0, 0, 0, 0, 0⟩⟩
instance : Inhabited Body := ⟨⟨0, 0, []⟩⟩
end
section
variable {H : Type} {enc : TypeId × Value → H} {w : World} {base : Nat}
theorem open_vecs {fuel : Nat} {cs : List Value} {x : DataW H × List MemPlace} (h : DataW.trod enc Tryz.prog w base (fun _ => true) true fuel 95 cs = some x) : ∃ A n c l, cs = [.slice A n c] ∧ Vecs w A n l :=
  open_sl (by omega) Tryz.underlying95 cells_vec elt_vec h
theorem elt_body (n b o : Nat) (cs : List Value) (y : DataW H × List MemPlace) (hc : ∀ i, i < 3 → w.cell? ⟨b, o + i, none⟩ = cs[i]?) (_ : cs.length = 3) (h : DataW.trod enc Tryz.prog w base (fun _ => true) true n 97 cs = some y) : ∃ x, bodyAt w x b o := by
  obtain ⟨hl, n, hf⟩ := open_field Tryz.underlying97 h
  obtain ⟨a0, a1, a2, rfl⟩ := len3 (hl.trans cells_body)
  obtain ⟨_, h0⟩ := hf 0 _ 0 _ rfl cells_int64
  obtain ⟨b0, e0⟩ := open_i64 Tryz.underlying2 (show DataW.trod enc Tryz.prog w base (fun _ => true) true n 2 [a0] = some _ from h0)
  obtain rfl : a0 = .int .i64 b0 := by injection e0
  obtain ⟨_, h1⟩ := hf 1 _ 1 _ rfl cells_int64
  obtain ⟨b1, e1⟩ := open_i64 Tryz.underlying2 (show DataW.trod enc Tryz.prog w base (fun _ => true) true n 2 [a1] = some _ from h1)
  obtain rfl : a1 = .int .i64 b1 := by injection e1
  obtain ⟨_, h2⟩ := hf 2 _ 2 _ rfl cells_vecs
  obtain ⟨A, m, c, l, e2, hv⟩ := open_vecs (show DataW.trod enc Tryz.prog w base (fun _ => true) true n 95 [a2] = some _ from h2)
  obtain rfl : a2 = .slice A m c := by injection e2
  exact ⟨⟨b0, b1, l⟩, hc 0 (by omega), hc 1 (by omega), A, m, c, hc 2 (by omega), hv⟩
theorem open_bodies {fuel : Nat} {cs : List Value} {x : DataW H × List MemPlace} (h : DataW.trod enc Tryz.prog w base (fun _ => true) true fuel 22 cs = some x) : ∃ A n c l, cs = [.slice A n c] ∧ Bodies w A n l :=
  open_sl (by omega) Tryz.underlying22 cells_body elt_body h
theorem open_stns {fuel : Nat} {cs : List Value} {x : DataW H × List MemPlace} (h : DataW.trod enc Tryz.prog w base (fun _ => true) true fuel 50 cs = some x) : ∃ A n c l, cs = [.slice A n c] ∧ Stns w A n l :=
  open_sl (by omega) Tryz.underlying50 cells_stn elt_stn h
theorem open_cats {fuel : Nat} {cs : List Value} {x : DataW H × List MemPlace} (h : DataW.trod enc Tryz.prog w base (fun _ => true) true fuel 51 cs = some x) : ∃ A n c l, cs = [.slice A n c] ∧ Cats w A n l :=
  open_sl (by omega) Tryz.underlying51 cells_cat elt_cat h
theorem open_world {fuel : Nat} {cs : List Value} {x : DataW H × List MemPlace} (h : DataW.trod enc Tryz.prog w base (fun _ => true) true fuel 24 cs = some x) : ∃ A n c l home, cs = [.slice A n c, .int .i64 home] ∧ Bodies w A n l := by
  obtain ⟨hl, n, hf⟩ := open_field Tryz.underlying24 h
  obtain ⟨a0, a1, rfl⟩ := len2 (hl.trans cells_world)
  obtain ⟨_, h0⟩ := hf 0 _ 0 _ rfl cells_bodies
  obtain ⟨A, m, c, l, e0, hv⟩ := open_bodies (show DataW.trod enc Tryz.prog w base (fun _ => true) true n 22 [a0] = some _ from h0)
  obtain rfl : a0 = .slice A m c := by injection e0
  obtain ⟨_, h1⟩ := hf 1 _ 1 _ rfl cells_int
  obtain ⟨b1, e1⟩ := open_i64 Tryz.underlying3 (show DataW.trod enc Tryz.prog w base (fun _ => true) true n 3 [a1] = some _ from h1)
  obtain rfl : a1 = .int .i64 b1 := by injection e1
  exact ⟨A, m, c, l, b1, rfl, hv⟩
theorem open_sky {fuel : Nat} {cs : List Value} {x : DataW H × List MemPlace} (h : DataW.trod enc Tryz.prog w base (fun _ => true) true fuel 53 cs = some x) :
    ∃ A1 n1 c1 home A2 n2 c2 A3 n3 c3 s, cs = [.slice A1 n1 c1, .int .i64 home, .slice A2 n2 c2, .slice A3 n3 c3] ∧ IsSky w A1 n1 home A2 n2 A3 n3 s := by
  obtain ⟨hl, n, hf⟩ := open_field Tryz.underlying53 h
  obtain ⟨a0, a1, a2, a3, rfl⟩ := len4 (hl.trans cells_sky)
  obtain ⟨_, h0⟩ := hf 0 _ 0 _ rfl cells_world
  obtain ⟨A1, n1, c1, l1, home, e0, hv1⟩ := open_world (show DataW.trod enc Tryz.prog w base (fun _ => true) true n 24 [a0, a1] = some _ from h0)
  injection e0 with e0a e0b; injection e0b with e0b; subst e0a e0b
  obtain ⟨_, h1⟩ := hf 1 _ 2 _ rfl cells_stns
  obtain ⟨A2, n2, c2, l2, e1, hv2⟩ := open_stns (show DataW.trod enc Tryz.prog w base (fun _ => true) true n 50 [a2] = some _ from h1)
  obtain rfl : a2 = .slice A2 n2 c2 := by injection e1
  obtain ⟨_, h2⟩ := hf 2 _ 3 _ rfl cells_cats
  obtain ⟨A3, n3, c3, l3, e2, hv3⟩ := open_cats (show DataW.trod enc Tryz.prog w base (fun _ => true) true n 51 [a3] = some _ from h2)
  obtain rfl : a3 = .slice A3 n3 c3 := by injection e2
  exact ⟨A1, n1, c1, home, A2, n2, c2, A3, n3, c3, ⟨⟨l1, home⟩, l2, l3⟩, rfl, ⟨hv1, rfl, hv2, hv3⟩⟩
end
end Go.Proofs.YtfniicgoeljmdaaGreat
