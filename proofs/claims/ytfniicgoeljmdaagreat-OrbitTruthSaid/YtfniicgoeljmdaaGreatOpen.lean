/- Arguments that can be read, opened: structs of integers, slices of structs, skies. No condition. -/
import Derived.Test.YtfniicgoeljmdaaGreatRootLaw
import Derived.ProofKit
import Derived.Deep.Slices
import Derived.Deep.Fields
import Derived.ChangeSame
namespace Go.Proofs.YtfniicgoeljmdaaGreat
open Go.RowKit Go.ChangeShapes Go.WideShapes Go.Deep

section
variable {H : Type} {enc : TypeId × Value → H} {w : World} {base : Nat} {spare : Nat → Bool} {held : Bool}

theorem open_i64 {t : TypeId} {fuel : Nat} {cs : List Value} {x : DataW H × List MemPlace} (ht : Tryz.prog.underlying t = some (.int .i64)) (h : DataW.trod enc Tryz.prog w base spare held fuel t cs = some x) : ∃ n : Int, cs = [.int .i64 n] := by
  obtain ⟨n, hn, _⟩ := DataW.trod_int ht h
  exact ⟨n, hn⟩

theorem cells_int : Tryz.prog.cellsOf 3 = 1 := by kernel_rfl
theorem add_none (b o n : Nat) : (⟨b, o, none⟩ : Addr).add n = ⟨b, o + n, none⟩ := by
  unfold Addr.add
  split
  · rename_i h; subst h; rfl
  · rfl
theorem open_sl {α : Type} [Inhabited α] {sz : Nat} {R : α → Nat → Nat → Prop} {t e : TypeId} (hsz : 0 < sz) (ht : Tryz.prog.underlying t = some (.slice e)) (hC : Tryz.prog.cellsOf e = sz)
    (helt : ∀ (n b o : Nat) (cs : List Value) (y : DataW H × List MemPlace), (∀ i, i < sz → w.cell? ⟨b, o + i, none⟩ = cs[i]?) → cs.length = sz → DataW.trod enc Tryz.prog w base (fun _ => true) true n e cs = some y → ∃ x : α, R x b o)
    {fuel : Nat} {cs : List Value} {x : DataW H × List MemPlace} (h : DataW.trod enc Tryz.prog w base (fun _ => true) true fuel t cs = some x) : ∃ A n c l, cs = [.slice A n c] ∧ SlR sz R A n l := by
  rcases open_slice ht h with ⟨rfl, _⟩ | ⟨a, len, cap, m, n, D, Pl, rfl, _, hl, hm, hmm, _, hi⟩
  · exact ⟨none, 0, 0, [], rfl, SlR.nil _ _ _⟩
  · rw [hC] at hi
    have hmc : m = cap := by simpa using hmm
    subst hmc
    rcases Nat.eq_zero_or_pos len with h0 | h0
    · subst h0; exact ⟨some a, 0, m, [], rfl, SlR.nil _ _ _⟩
    · have hsp : ∃ b off, a = ⟨b, off, none⟩ := by
        obtain ⟨cs', hc, _⟩ := hi 0 (by omega)
        obtain ⟨_, hcl, hat⟩ := World.cells?_some hc
        have h1 := hat 0 hsz
        have h2 : ∃ v, cs'[0]? = some v := ⟨cs'[0]'(by omega), List.getElem?_eq_getElem (by omega)⟩
        obtain ⟨v, hv⟩ := h2
        rw [hv] at h1
        obtain ⟨b, off, sp⟩ := a
        cases sp with
        | none => exact ⟨b, off, rfl⟩
        | some s =>
          exfalso
          have : ((⟨b, off, some s⟩ : Addr).add (0 * sz)).add 0 = ⟨b, off, some s⟩ := by simp [Addr.add]
          rw [this] at h1
          simp only [World.cell?] at h1
          split at h1 <;> simp at h1
      obtain ⟨b, off, rfl⟩ := hsp
      have hx : ∀ i, i < len → ∃ x : α, R x b (off + i * sz) := by
        intro i hil
        obtain ⟨cs', hc, ht'⟩ := hi i (by omega)
        obtain ⟨_, hcl, hat⟩ := World.cells?_some hc
        refine helt _ b (off + i * sz) cs' _ (fun j hj => ?_) hcl ht'
        have := hat j hj
        rw [add_none, add_none] at this
        exact this
      obtain ⟨f, hf⟩ := choose_lt hx
      refine ⟨some ⟨b, off, none⟩, len, m, (List.range len).map f, rfl, by simp, by unfold maxLen at hm; omega, .inr ⟨b, off, rfl, fun k hk => ?_⟩⟩
      simp only [List.length_map, List.length_range] at hk
      simpa using hf k hk
instance : Inhabited Vec := ⟨⟨0, 0⟩⟩
instance : Inhabited Stn := ⟨⟨0, default⟩⟩
instance : Inhabited Cat := ⟨⟨0, 0, 0⟩⟩
instance : Inhabited St := ⟨⟨0, 0, 0, 0⟩⟩
instance : Inhabited Sight := ⟨⟨0, 0, 0, 0, 0, 0, 0, 0, 0⟩⟩
instance : Inhabited Body := ⟨⟨0, 0, []⟩⟩
end
end Go.Proofs.YtfniicgoeljmdaaGreat
