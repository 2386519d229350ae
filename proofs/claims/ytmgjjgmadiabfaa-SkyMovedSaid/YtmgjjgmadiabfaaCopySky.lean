/- A sky's copy. No condition. -/
import Derived.Test.YtmgjjgmadiabfaaCopy
namespace Go.Proofs.Ytmgjjgmadiabfaa
open Go.RowKit

structure OwnSky (base : Nat) (w : World) (v1 v2 v3 : Value) (s : Sky) (bs : List Nat) : Prop where
  bodies : OwnBodies base w v1 s.world.bodies bs
  stations : w.ownsRow base 95 3 v2 s.stations.length (s.stations.flatMap stnC)
  catalogs : w.ownsRow base 99 3 v3 s.catalogs.length (s.catalogs.flatMap catC)
theorem OwnBodies.sl {base : Nat} {w : World} {v : Value} {l : List Body} {bs : List Nat} (h : OwnBodies base w v l bs) : ∃ A c, v = .slice A l.length c ∧ Bodies w A l.length l := by
  obtain ⟨raw, h1, h2, h3, h4, h5, h6⟩ := h
  rcases h3.2 with ⟨rfl, h0⟩ | ⟨g, cap, cur, rfl, hbg, hg, hnc, hcm, hcs, htk⟩
  · rw [h0]
    have : l = [] := List.eq_nil_of_length_eq_zero h0
    subst this
    exact ⟨none, 0, rfl, SlR.nil _ _ _⟩
  · refine ⟨_, cap, rfl, rfl, by unfold maxLen at hcm; omega, .inr ⟨g, 0, rfl, fun k hk => ?_⟩⟩
    obtain ⟨bk, cp, q1, q2, q3⟩ := h5 k hk
    have hr : ∀ i u, (([.int .i64 l[k].mu, .int .i64 l[k].radius, .slice (some ⟨bk, 0, none⟩) l[k].track.length cp] : List Value))[i]? = some u → w.cell? ⟨g, 0 + k * 3 + i, none⟩ = some u := by
      intro i u hu
      have hi : i < 3 := (List.getElem?_eq_some_iff.1 hu).1
      have h7 : raw.flatten[k * 3 + i]? = some u := by
        have : ∀ (raw : List (List Value)) (k : Nat) (r : List Value), (∀ r ∈ raw, r.length = 3) → raw[k]? = some r → raw.flatten[k * 3 + i]? = r[i]? := by
          intro raw
          induction raw with
          | nil => intro k r _ h; simp at h
          | cons a q ih =>
            intro k r hl hk
            have ha := hl a (by simp)
            cases k with
            | zero =>
              simp at hk; subst hk
              simp only [List.flatten_cons, Nat.zero_mul, Nat.zero_add]
              rw [List.getElem?_append_left (by rw [ha]; exact hi)]
            | succ k =>
              simp only [List.flatten_cons]
              rw [List.getElem?_append_right (by rw [ha]; omega), ha, show (k + 1) * 3 + i - 3 = k * 3 + i by omega]
              exact ih k r (fun r hr => hl r (by simp [hr])) (by simpa using hk)
        rw [this raw k _ h2 q2, hu]
      have h8 := h3.cells (g := g) rfl _ _ h7
      rw [add_none] at h8
      rw [show 0 + k * 3 + i = 0 + (k * 3 + i) by omega]
      exact h8
    obtain ⟨A, c, e1, e2⟩ := own_sl vec_len (vec_read w) q3
    injection e1 with e1a e1b e1c
    subst e1a e1c
    exact ⟨hr 0 _ rfl, hr 1 _ rfl, _, _, _, hr 2 _ rfl, e2⟩
theorem OwnSky.sky {base : Nat} {w : World} {v1 v2 v3 : Value} {s : Sky} {bs : List Nat} (h : OwnSky base w v1 v2 v3 s bs) :
    ∃ A1 c1 A2 c2 A3 c3, v1 = .slice A1 s.world.bodies.length c1 ∧ v2 = .slice A2 s.stations.length c2 ∧ v3 = .slice A3 s.catalogs.length c3 ∧ IsSky w A1 s.world.bodies.length s.world.home A2 s.stations.length A3 s.catalogs.length s := by
  obtain ⟨A1, c1, rfl, h1⟩ := h.bodies.sl
  obtain ⟨A2, c2, rfl, h2⟩ := own_sl stn_len (stn_read w) h.stations
  obtain ⟨A3, c3, rfl, h3⟩ := own_sl cat_len (cat_read w) h.catalogs
  exact ⟨A1, c1, A2, c2, A3, c3, rfl, rfl, rfl, h1, rfl, h2, h3⟩
theorem OwnSky.ext {base : Nat} {w w' : World} {v1 v2 v3 : Value} {s : Sky} {bs : List Nat} (h : OwnSky base w v1 v2 v3 s bs) (e : Ext w w') : OwnSky base w' v1 v2 v3 s bs :=
  ⟨h.bodies.ext e, own_ext_keep h.stations e, own_ext_keep h.catalogs e⟩

set_option maxRecDepth 4000 in
set_option maxHeartbeats 1000000 in
theorem OwnSky_c (A1 : Option Addr) (n1 c1 : Nat) (home : Int) (A2 : Option Addr) (n2 c2 : Nat) (A3 : Option Addr) (n3 c3 : Nat) (s : Sky) (w : World) (hs : IsSky w A1 n1 home A2 n2 A3 n3 s) (hbig : bigSky s = false) :
    Calls Try.prog 26 #[.agg #[.slice A1 n1 c1, .int .i64 home, .slice A2 n2 c2, .slice A3 n3 c3]] w fun e w' => ∃ v1 v2 v3 bs, e = .returned (.agg #[v1, .int .i64 home, v2, v3]) ∧ OwnSky w.heap.size w' v1 v2 v3 s bs ∧ Ext w w' := by
  unfold bigSky at hbig
  simp only [Bool.or_eq_false_iff, decide_eq_false_iff_not] at hbig
  obtain ⟨⟨hb1, hb2⟩, hb3⟩ := hbig
  have h2 := hs.stations.len
  have h3 := hs.catalogs.len
  have hn2 : n2 ≤ 18 := by omega
  have hn3 : n3 ≤ 10 := by omega
  have HW := Lib.hid fun W (hW : Ext w W) => OwnWorld_c A1 n1 c1 home s.world.bodies W (hs.ext hW).bodies hb1
  have HS := Lib.hid fun W (hW : Ext w W) => (hs.ext hW).stations
  have HC := Lib.hid fun W (hW : Ext w W) => (hs.ext hW).catalogs
  have H2 := Lib.hid h2
  have H3 := Lib.hid h3
  obtain ⟨is_, his, hs0, hs1, hs2⟩ := info_parts info_stn
  obtain ⟨ic, hic, hc0, hc1, hc2⟩ := info_parts info_cat
  clear hb1 hb2 hb3 h2 h3 hs
  go_enter Try.func26, Try.ntmps26
  go_wp2_with fail
  refine (HW.out _ (by (repeat' (first | exact Ext.refl _ | assumption | apply Ext.alloc | apply Ext.drew | refine Ext.set ?_ (by dsimp only; omega) _ | refine Ext.trans ?_ (by assumption))))).mono ?_
  rintro e w1 ⟨v1, bs, rfl, HO, h1⟩
  obtain ⟨A1', m1, c1', rfl⟩ : ∃ A n c, v1 = .slice A n c := by
    obtain ⟨A, c, rfl, _⟩ := HO.sl
    exact ⟨A, _, c, rfl⟩
  have hB1 : Blk w1 w.heap.size 28 #[.slice A1 n1 c1, .int .i64 home, .slice A2 n2 c2, .slice A3 n3 c3] := Blk.ext (Blk.alloc (Blk.newAt rfl) _) h1
  have hB2 : Blk w1 (w.heap.size + 1) 28 #[.slice none 0 0, .int .i64 0, .slice none 0 0, .slice none 0 0] := Blk.ext (Blk.newAt (by simp)) h1
  have hz1 := h1.size
  simp only [World.size_alloc] at hz1
  have HO' := Lib.hid (HO.mono (show w.heap.size + 1 + 1 ≤ _ by simp only [World.size_alloc]; omega))
  have HB1 := Lib.hid hB1
  have HB2 := Lib.hid hB2
  have hcB1 := hB1.cell
  have hfB1 := hB1.frozen
  have hcB2 := hB2.cell
  have hfB2 := hB2.frozen
  have hw1 : w.heap.size < w1.heap.size := by omega
  have hw2 : w.heap.size + 1 < w1.heap.size := by omega
  clear HO hB1 hB2
  go_wp2_with (at_builtin; go_loud (refine wpList_append_sl rfl (.tmp 7) (.tmp 9) 25 rfl (w.heap.size + 1 + 1) 95 is_ _ 3 24 Try.underlying25 his hs0 hs1 hs2 rfl (by decide) _ 0 [] rfl (own_made (by simp) (by omega)) A2 n2 c2 (s.stations.flatMap stnC) rfl (by rw [flat_len stn_len, ← H2.out]) (sl_news stn_len (stn_news _) (HS.out _ (by (repeat' (first | exact Ext.refl _ | assumption | apply Ext.alloc | apply Ext.drew | refine Ext.set ?_ (by dsimp only; omega) _ | refine Ext.trans ?_ (by assumption)))))) (flat_one stn_one _) (by unfold maxLen; omega) (by omega) (by simp; omega) ?_))
  intro v2 w2 ho2 hg2 hn2
  (try simp only [Nat.zero_add, List.nil_append] at ho2)
  obtain ⟨g2, cp2, rfl, hg2a, hg2b⟩ := own_some ho2 (fun h => by cases hn2 h)
  have e2 := grown_ext (Ext.alloc0 _ _) hg2 (by intro j hj; simp [Value.ownBlock] at hj; simp; omega)
  have hB1 : Blk w2 w.heap.size 28 #[.slice A1' m1 c1', .int .i64 home, .slice A2 n2 c2, .slice A3 n3 c3] := Blk.ext ((HB1.out.set_ 0 _).set_ 1 _) e2
  have hB2 : Blk w2 (w.heap.size + 1) 28 #[.slice none 0 0, .int .i64 0, .slice none 0 0, .slice none 0 0] := Blk.ext ((HB2.out.far (by simp) _).far (by simp) _) e2
  have HO2 := Lib.hid (OwnBodies.ext ((OwnBodies.set (OwnBodies.set HO'.out (by show w.heap.size < _; omega) _) (by show w.heap.size < _; omega) _)) e2)
  have eW1 : Ext w w1 := Ext.trans ((Ext.alloc0 _ _).alloc _) h1
  have eW2 : Ext w w2 := (Ext.set (Ext.set eW1 (by dsimp only; omega) _) (by dsimp only; omega) _).trans e2
  clear hcB1 hcB2 hfB1 hfB2 hg2 e2
  have Ho2 := Lib.hid ho2
  have HB1 := Lib.hid hB1
  have HB2 := Lib.hid hB2
  have hcB1 := hB1.cell
  have hfB1 := hB1.frozen
  have hcB2 := hB2.cell
  have hfB2 := hB2.frozen
  have hw3 : w.heap.size < w2.heap.size := hB1.lt
  have hw4 : w.heap.size + 1 < w2.heap.size := hB2.lt
  clear ho2 hn2 hB1 hB2
  go_wp2_with (at_builtin; go_loud (refine wpList_append_sl rfl (.tmp 12) (.tmp 14) 26 rfl (w.heap.size + 1 + 1) 99 ic _ 3 24 Try.underlying26 hic hc0 hc1 hc2 rfl (by decide) _ 0 [] rfl (own_made (by simp) (by omega)) A3 n3 c3 (s.catalogs.flatMap catC) rfl (by rw [flat_len cat_len, ← H3.out]) (sl_news cat_len (cat_news _) (HC.out _ (by (repeat' (first | exact Ext.refl _ | assumption | apply Ext.alloc | apply Ext.drew | refine Ext.set ?_ (by dsimp only; omega) _ | refine Ext.trans ?_ (by assumption)))))) (flat_one cat_one _) (by unfold maxLen; omega) (by omega) (by simp; omega) ?_))
  intro v3 w3 ho3 hg3 hn3
  (try simp only [Nat.zero_add, List.nil_append] at ho3)
  obtain ⟨g3, cp3, rfl, hg3a, hg3b⟩ := own_some ho3 (fun h => by cases hn3 h)
  have e3 := grown_ext (Ext.alloc0 _ _) hg3 (by intro j hj; simp [Value.ownBlock] at hj; simp; omega)
  have hB1 : Blk w3 w.heap.size 28 #[.slice A1' m1 c1', .int .i64 home, .slice (some ⟨g2, 0, none⟩) n2 cp2, .slice A3 n3 c3] := Blk.ext (HB1.out.set_ 2 _) e3
  have hB2 : Blk w3 (w.heap.size + 1) 28 #[.slice none 0 0, .int .i64 0, .slice none 0 0, .slice none 0 0] := Blk.ext (HB2.out.far (by simp) _) e3
  have HO3 := Lib.hid (OwnBodies.ext (OwnBodies.set HO2.out (by show w.heap.size < _; omega) _) e3)
  have HS3 := Lib.hid (own_ext_keep (own_set Ho2.out (own_block_ge Ho2.out (b := w.heap.size) (by omega)) _) e3)
  have HC3 := Lib.hid ho3
  have eW3 : Ext w w3 := (Ext.set eW2 (by dsimp only; omega) _).trans e3
  clear hcB1 hcB2 hfB1 hfB2 hg3 e3 ho3 hn3
  have hcB1 := hB1.cell
  have hfB1 := hB1.frozen
  have hcB2 := hB2.cell
  have hfB2 := hB2.frozen
  have hw5 : w.heap.size < w3.heap.size := hB1.lt
  have hw6 : w.heap.size + 1 < w3.heap.size := hB2.lt
  clear hB1 hB2
  go_wp2_with fail
  (try simp only [Exit.inBlock, Exit.then]); apply bodyPost_ret; (focus (simp only [results, Try.results26]; go_simp; try rfl)); rfl
  refine ⟨_, _, _, bs, rfl, ⟨?_, ?_, ?_⟩, ?_⟩
  rotate_left 3
  · iterate 5 refine Ext.set ?_ (by dsimp only; omega) _
    exact eW3
  · refine OwnBodies.mono ?_ (Nat.le_add_right _ (1 + 1))
    iterate 5 refine OwnBodies.set ?_ (by first | (show w.heap.size + 1 < _; omega) | (show w.heap.size < _; omega)) _
    exact HO3.out
  · rw [← H2.out]
    refine own_mono ?_ (Nat.le_add_right _ (1 + 1))
    iterate 4 refine own_set ?_ (own_block_ge (b := w.heap.size + 1) HS3.out (by omega)) _
    refine own_set ?_ (own_block_ge (b := w.heap.size) HS3.out (by omega)) _
    exact HS3.out
  · rw [← H3.out]
    refine own_mono ?_ (Nat.le_add_right _ (1 + 1))
    iterate 4 refine own_set ?_ (own_block_ge (b := w.heap.size + 1) HC3.out (by omega)) _
    refine own_set ?_ (own_block_ge (b := w.heap.size) HC3.out (by omega)) _
    exact HC3.out
end Go.Proofs.Ytmgjjgmadiabfaa
