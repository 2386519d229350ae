/- Lists of tracklets that the call itself makes. No condition. -/
import Derived.Test.YtmgjjgmadiabfaaMany
import Derived.Test.YtmgjjgmadiabfaaOwnRows
namespace Go.Proofs.Ytmgjjgmadiabfaa
open Go.RowKit

def OwnTrk (base : Nat) (w : World) (v : Value) (l : List Sight) : Prop := w.ownsRow base 32 9 v l.length (l.flatMap sightC)
theorem OwnTrk.ext {base : Nat} {w w' : World} {v : Value} {l : List Sight} (h : OwnTrk base w v l) (e : Ext w w') : OwnTrk base w' v l := own_ext_keep h e
theorem OwnTrk.sl {base : Nat} {w : World} {v : Value} {l : List Sight} (h : OwnTrk base w v l) : ∃ A c, v = .slice A l.length c ∧ Sights w A l.length l := own_sl sight_len (sight_read w) h
def OwnTrks (base : Nat) (w : World) (v : Value) (rows : List (List Sight)) : Prop :=
  ∃ raw : List Value, raw.length = rows.length ∧ w.ownsRow base 51 1 v rows.length raw ∧ ∀ k (h : k < rows.length), ∃ u, raw[k]? = some u ∧ OwnTrk base w u rows[k]
theorem OwnTrks.nil (base : Nat) (w : World) : OwnTrks base w (.slice none 0 0) [] := ⟨[], rfl, World.ownsRow_nil _ _ _ _, fun k h => by cases h⟩
theorem OwnTrks.ext {base : Nat} {w w' : World} {v : Value} {rows : List (List Sight)} (h : OwnTrks base w v rows) (e : Ext w w') : OwnTrks base w' v rows := by
  obtain ⟨raw, h1, h2, h3⟩ := h
  refine ⟨raw, h1, own_ext_keep h2 e, fun k hk => ?_⟩
  obtain ⟨u, g1, g2⟩ := h3 k hk
  exact ⟨u, g1, g2.ext e⟩
theorem OwnTrk.grow {base : Nat} {w w' : World} {v : Value} {l : List Sight} (h : OwnTrk base w v l) {T : Nat} {t : TypeId} {cs : Array Value} (hB : Blk w T t cs) (hne : 32 ≠ t) (hg : w.grownBy w' (some T)) : OwnTrk base w' v l :=
  World.ownsRow.kept h hg (.inr (own_blk h hB hne))
theorem OwnTrks.grow {base : Nat} {w w' : World} {v : Value} {rows : List (List Sight)} (h : OwnTrks base w v rows) {T : Nat} {t : TypeId} {cs : Array Value} (hB : Blk w T t cs) (hne : 32 ≠ t) (hne' : 51 ≠ t) (hg : w.grownBy w' (some T)) : OwnTrks base w' v rows := by
  obtain ⟨raw, h1, h2, h3⟩ := h
  refine ⟨raw, h1, World.ownsRow.kept h2 hg (.inr (own_blk h2 hB hne')), fun k hk => ?_⟩
  obtain ⟨u, g1, g2⟩ := h3 k hk
  exact ⟨u, g1, g2.grow hB hne hg⟩
theorem OwnTrks.snoc {base : Nat} {w w' : World} {v v' u : Value} {rows : List (List Sight)} {raw : List Value} {x : List Sight} {n : Nat} (hn : n = 1) (h1 : raw.length = rows.length) (h2 : w.ownsRow base 51 1 v rows.length raw) (h3 : ∀ k (h : k < rows.length), ∃ u, raw[k]? = some u ∧ OwnTrk base w u rows[k])
    (hu : OwnTrk base w u x) (hg : w.grownBy w' v.ownBlock) (hv : w'.ownsRow base 51 1 v' (rows.length + n) (raw ++ [u])) : OwnTrks base w' v' (rows ++ [x]) := by
  subst hn
  have keep : ∀ {q : Value} {l : List Sight}, OwnTrk base w q l → OwnTrk base w' q l := fun h => World.ownsRow.kept h hg (own_ne h h2 (by decide))
  refine ⟨raw ++ [u], by simp [h1], by rw [List.length_append]; exact hv, fun k hk => ?_⟩
  by_cases hk' : k < rows.length
  · obtain ⟨q, g1, g2⟩ := h3 k hk'
    refine ⟨q, by rw [List.getElem?_append_left (by omega)]; exact g1, ?_⟩
    rw [List.getElem_append_left hk']
    exact keep g2
  · have hk2 : k = rows.length := by rw [List.length_append] at hk; simp at hk; omega
    subst hk2
    refine ⟨u, by rw [List.getElem?_append_right (by omega), h1]; simp, ?_⟩
    have e1 : (rows ++ [x])[rows.length] = x := by simp
    rw [e1]
    exact keep hu
theorem OwnTrks.sl {base : Nat} {w : World} {v : Value} {rows : List (List Sight)} (h : OwnTrks base w v rows) : ∃ A c, v = .slice A rows.length c ∧ Trks w A rows.length rows := by
  obtain ⟨raw, h1, h3, h5⟩ := h
  rcases h3.2 with ⟨rfl, h0⟩ | ⟨g, cap, cur, rfl, hbg, hg, hnc, hcm, hcs, htk⟩
  · rw [h0]
    have : rows = [] := List.eq_nil_of_length_eq_zero h0
    subst this
    exact ⟨none, 0, rfl, SlR.nil _ _ _⟩
  · refine ⟨_, cap, rfl, rfl, by unfold maxLen at hcm; omega, .inr ⟨g, 0, rfl, fun k hk => ?_⟩⟩
    obtain ⟨u, q1, q2⟩ := h5 k hk
    obtain ⟨A, c, rfl, q3⟩ := q2.sl
    have h8 := h3.cells (g := g) rfl _ _ q1
    rw [add_none] at h8
    exact ⟨A, _, c, by rw [Nat.mul_one]; exact h8, q3⟩
theorem OwnTrk.wr {wb w w' : World} {g : Nat} {B : Int} {base : Nat} {v : Value} {l : List Sight} (h : OwnTrk base w v l) (r : IsRing wb w g B) (e : Wr w g w') : OwnTrk base w' v l := own_wr h r (by decide) e
theorem OwnTrks.wr {wb w w' : World} {g : Nat} {B : Int} {base : Nat} {v : Value} {rows : List (List Sight)} (h : OwnTrks base w v rows) (r : IsRing wb w g B) (e : Wr w g w') : OwnTrks base w' v rows := by
  obtain ⟨raw, h1, h2, h3⟩ := h
  refine ⟨raw, h1, own_wr h2 r (by decide) e, fun k hk => ?_⟩
  obtain ⟨u, g1, g2⟩ := h3 k hk
  exact ⟨u, g1, g2.wr r e⟩
/-- An append to a row of another type leaves them. -/
theorem OwnTrks.other {base base' : Nat} {w w' : World} {v v' : Value} {rows : List (List Sight)} {e : TypeId} {sz n : Nat} {xs : List Value} (h : OwnTrks base w v rows) (ho : w.ownsRow base' e sz v' n xs) (h1 : 32 ≠ e) (h2 : 51 ≠ e) (hg : w.grownBy w' v'.ownBlock) : OwnTrks base w' v rows := by
  obtain ⟨raw, q1, q2, q3⟩ := h
  refine ⟨raw, q1, World.ownsRow.kept q2 hg (own_ne q2 ho h2), fun k hk => ?_⟩
  obtain ⟨u, g1, g2⟩ := q3 k hk
  exact ⟨u, g1, World.ownsRow.kept g2 hg (own_ne g2 ho h1)⟩
theorem OwnTrks.mono {base base' : Nat} {w : World} {v : Value} {rows : List (List Sight)} (h : OwnTrks base w v rows) (hb : base' ≤ base) : OwnTrks base' w v rows := by
  obtain ⟨raw, h1, h2, h3⟩ := h
  refine ⟨raw, h1, own_mono h2 hb, fun k hk => ?_⟩
  obtain ⟨u, g1, g2⟩ := h3 k hk
  exact ⟨u, g1, own_mono g2 hb⟩
theorem OwnTrks.set {base : Nat} {w : World} {v : Value} {rows : List (List Sight)} (h : OwnTrks base w v rows) {p : Addr} (hp : p.block < base) (u : Value) : OwnTrks base (w.setCell p u) v rows := by
  obtain ⟨raw, h1, h2, h3⟩ := h
  refine ⟨raw, h1, own_set h2 (own_block_ge h2 hp) u, fun k hk => ?_⟩
  obtain ⟨q, g1, g2⟩ := h3 k hk
  exact ⟨q, g1, own_set g2 (own_block_ge g2 hp) u⟩
theorem info_sights : (Try.prog.info? 51).map (fun i => (i.zero, i.size, i.bytes)) = some (some (.slice none 0 0), 1, 24) := by kernel_rfl
end Go.Proofs.Ytmgjjgmadiabfaa
