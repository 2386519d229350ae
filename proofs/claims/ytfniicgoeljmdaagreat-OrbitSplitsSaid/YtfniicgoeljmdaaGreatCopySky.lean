/- Copies of worlds and skies. No condition. A sky's copy. No condition. -/
import Derived.Test.YtfniicgoeljmdaaGreatOwn
namespace Go.Proofs.YtfniicgoeljmdaaGreat
open Go.RowKit

/-- Bodies that the call itself has laid, each with a track of its own. -/
def OwnBodies (base : Nat) (w : World) (v : Value) (l : List Body) (bs : List Nat) : Prop :=
  ∃ raw : List (List Value), raw.length = l.length ∧ (∀ r ∈ raw, r.length = 3) ∧ w.ownsRow base 97 3 v l.length raw.flatten ∧ bs.length = l.length ∧
    (∀ k (h : k < l.length), ∃ bk cap, bs[k]? = some bk ∧ raw[k]? = some [.int .i64 l[k].mu, .int .i64 l[k].radius, .slice (some ⟨bk, 0, none⟩) l[k].track.length cap] ∧
      w.ownsRow base 85 2 (.slice (some ⟨bk, 0, none⟩) l[k].track.length cap) l[k].track.length (l[k].track.flatMap vecC)) ∧ bs.Pairwise (· < ·)
theorem OwnBodies.nil (base : Nat) (w : World) : OwnBodies base w (.slice none 0 0) [] [] :=
  ⟨[], rfl, (by intro r h; cases h), World.ownsRow_nil _ _ _ _, rfl, (by intro k h; cases h), List.Pairwise.nil⟩
theorem OwnBodies.ext {base : Nat} {w w' : World} {v : Value} {l : List Body} {bs : List Nat} (h : OwnBodies base w v l bs) (e : Ext w w') : OwnBodies base w' v l bs := by
  obtain ⟨raw, h1, h2, h3, h4, h5, h6⟩ := h
  refine ⟨raw, h1, h2, own_ext_keep h3 e, h4, fun k hk => ?_, h6⟩
  obtain ⟨bk, cap, g1, g2, g3⟩ := h5 k hk
  exact ⟨bk, cap, g1, g2, own_ext_keep g3 e⟩
theorem OwnBodies.lt {base : Nat} {w : World} {v : Value} {l : List Body} {bs : List Nat} (h : OwnBodies base w v l bs) : ∀ b ∈ bs, b < w.heap.size := by
  obtain ⟨raw, h1, h2, h3, h4, h5, h6⟩ := h
  intro b hb
  obtain ⟨k, hk, rfl⟩ := List.mem_iff_getElem.1 hb
  obtain ⟨bk, cap, g1, g2, g3⟩ := h5 k (by omega)
  have := (g3.lt bk rfl).2
  rw [List.getElem?_eq_getElem hk] at g1
  injection g1 with g1
  omega
theorem OwnBodies.mono {base base' : Nat} {w : World} {v : Value} {l : List Body} {bs : List Nat} (h : OwnBodies base w v l bs) (hb : base' ≤ base) : OwnBodies base' w v l bs := by
  obtain ⟨raw, h1, h2, h3, h4, h5, h6⟩ := h
  refine ⟨raw, h1, h2, own_mono h3 hb, h4, fun k hk => ?_, h6⟩
  obtain ⟨bk, cap, g1, g2, g3⟩ := h5 k hk
  exact ⟨bk, cap, g1, g2, own_mono g3 hb⟩
theorem own_block_ge {w : World} {base : Nat} {e : TypeId} {sz : Nat} {v : Value} {n : Nat} {xs : List Value} (h : w.ownsRow base e sz v n xs) {b : Nat} (hb : b < base) : v.ownBlock ≠ some b := fun hx => by
  have := (h.lt b hx).1; omega
theorem OwnBodies.set {base : Nat} {w : World} {v : Value} {l : List Body} {bs : List Nat} (h : OwnBodies base w v l bs) {p : Addr} (hp : p.block < base) (u : Value) : OwnBodies base (w.setCell p u) v l bs := by
  obtain ⟨raw, h1, h2, h3, h4, h5, h6⟩ := h
  refine ⟨raw, h1, h2, own_set h3 (own_block_ge h3 hp) u, h4, fun k hk => ?_, h6⟩
  obtain ⟨bk, cap, g1, g2, g3⟩ := h5 k hk
  exact ⟨bk, cap, g1, g2, own_set g3 (own_block_ge g3 hp) u⟩
end Go.Proofs.YtfniicgoeljmdaaGreat

namespace Go.Proofs.YtfniicgoeljmdaaGreat
open Go.RowKit

structure OwnSky (base : Nat) (w : World) (v1 v2 v3 : Value) (s : Sky) (bs : List Nat) : Prop where
  bodies : OwnBodies base w v1 s.world.bodies bs
  stations : w.ownsRow base 146 3 v2 s.stations.length (s.stations.flatMap stnC)
  catalogs : w.ownsRow base 148 3 v3 s.catalogs.length (s.catalogs.flatMap catC)
theorem OwnBodies.sl {base : Nat} {w : World} {v : Value} {l : List Body} {bs : List Nat} (h : OwnBodies base w v l bs) : ∃ A c, v = .slice A l.length c ∧ Bodies w A l.length l := by
  obtain ⟨raw, h1, h2, h3, h4, h5, h6⟩ := h
  rcases h3.2 with ⟨rfl, h0⟩ | ⟨g, cap, cur, rfl, hbg, hg, hnc, hcm, hcs, htk⟩
  · rw [h0]
    have : l = [] := List.eq_nil_of_length_eq_zero h0
    subst this
    exact ⟨none, 0, rfl, SlR.nil _ _ _⟩
  · refine ⟨_, cap, rfl, rfl, by unfold maxLen at hcm; omega, .inr ⟨g, 0, rfl, fun k hk => ?_⟩⟩
    obtain ⟨bk, cp, q1, q2, q3⟩ := h5 k hk
    have hr : ∀ i u, (([.int .i64 l[k].mu, .int .i64 l[k].radius, .slice (some ⟨bk, 0, none⟩) l[k].track.length cp] : List Value))[i]? = some u → w.cell? ⟨g, 0 + k * 3 + i, none⟩ = some u := by
      intro i u hu
      have hi : i < 3 := (List.getElem?_eq_some_iff.1 hu).1
      have h7 : raw.flatten[k * 3 + i]? = some u := by
        have : ∀ (raw : List (List Value)) (k : Nat) (r : List Value), (∀ r ∈ raw, r.length = 3) → raw[k]? = some r → raw.flatten[k * 3 + i]? = r[i]? := by
          intro raw
          induction raw with
          | nil => intro k r _ h; simp at h
          | cons a q ih =>
            intro k r hl hk
            have ha := hl a (by simp)
            cases k with
            | zero =>
              simp at hk; subst hk
              simp only [List.flatten_cons, Nat.zero_mul, Nat.zero_add]
              rw [List.getElem?_append_left (by rw [ha]; exact hi)]
            | succ k =>
              simp only [List.flatten_cons]
              rw [List.getElem?_append_right (by rw [ha]; omega), ha, show (k + 1) * 3 + i - 3 = k * 3 + i by omega]
              exact ih k r (fun r hr => hl r (by simp [hr])) (by simpa using hk)
        rw [this raw k _ h2 q2, hu]
      have h8 := h3.cells (g := g) rfl _ _ h7
      rw [add_none] at h8
      rw [show 0 + k * 3 + i = 0 + (k * 3 + i) by omega]
      exact h8
    obtain ⟨A, c, e1, e2⟩ := own_sl vec_len (vec_read w) q3
    injection e1 with e1a e1b e1c
    subst e1a e1c
    exact ⟨hr 0 _ rfl, hr 1 _ rfl, _, _, _, hr 2 _ rfl, e2⟩
theorem OwnSky.sky {base : Nat} {w : World} {v1 v2 v3 : Value} {s : Sky} {bs : List Nat} (h : OwnSky base w v1 v2 v3 s bs) :
    ∃ A1 c1 A2 c2 A3 c3, v1 = .slice A1 s.world.bodies.length c1 ∧ v2 = .slice A2 s.stations.length c2 ∧ v3 = .slice A3 s.catalogs.length c3 ∧ IsSky w A1 s.world.bodies.length s.world.home A2 s.stations.length A3 s.catalogs.length s := by
  obtain ⟨A1, c1, rfl, h1⟩ := h.bodies.sl
  obtain ⟨A2, c2, rfl, h2⟩ := own_sl stn_len (stn_read w) h.stations
  obtain ⟨A3, c3, rfl, h3⟩ := own_sl cat_len (cat_read w) h.catalogs
  exact ⟨A1, c1, A2, c2, A3, c3, rfl, rfl, rfl, h1, rfl, h2, h3⟩
theorem OwnSky.ext {base : Nat} {w w' : World} {v1 v2 v3 : Value} {s : Sky} {bs : List Nat} (h : OwnSky base w v1 v2 v3 s bs) (e : Ext w w') : OwnSky base w' v1 v2 v3 s bs :=
  ⟨h.bodies.ext e, own_ext_keep h.stations e, own_ext_keep h.catalogs e⟩

end Go.Proofs.YtfniicgoeljmdaaGreat
