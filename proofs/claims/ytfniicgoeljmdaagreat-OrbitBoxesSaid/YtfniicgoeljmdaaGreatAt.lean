/- A sky's copy. No condition. Where bodies and stations are, of the program and of the reference; skies that are equal. No condition. -/
import Derived.Test.YtfniicgoeljmdaaGreatCopy
namespace Go.Proofs.YtfniicgoeljmdaaGreat
open Go.RowKit

structure OwnSky (base : Nat) (w : World) (v1 v2 v3 : Value) (s : Sky) (bs : List Nat) : Prop where
  bodies : OwnBodies base w v1 s.world.bodies bs
  stations : w.ownsRow base 146 3 v2 s.stations.length (s.stations.flatMap stnC)
  catalogs : w.ownsRow base 148 3 v3 s.catalogs.length (s.catalogs.flatMap catC)
theorem OwnBodies.sl {base : Nat} {w : World} {v : Value} {l : List Body} {bs : List Nat} (h : OwnBodies base w v l bs) : ∃ A c, v = .slice A l.length c ∧ Bodies w A l.length l := by
  obtain ⟨raw, h1, h2, h3, h4, h5, h6⟩ := h
  rcases h3.2 with ⟨rfl, h0⟩ | ⟨g, cap, cur, rfl, hbg, hg, hnc, hcm, hcs, htk⟩
  · rw [h0]
    have : l = [] := List.eq_nil_of_length_eq_zero h0
    subst this
    exact ⟨none, 0, rfl, SlR.nil _ _ _⟩
  · refine ⟨_, cap, rfl, rfl, by unfold maxLen at hcm; omega, .inr ⟨g, 0, rfl, fun k hk => ?_⟩⟩
    obtain ⟨bk, cp, q1, q2, q3⟩ := h5 k hk
    have hr : ∀ i u, (([.int .i64 l[k].mu, .int .i64 l[k].radius, .slice (some ⟨bk, 0, none⟩) l[k].track.length cp] : List Value))[i]? = some u → w.cell? ⟨g, 0 + k * 3 + i, none⟩ = some u := by
      intro i u hu
      have hi : i < 3 := (List.getElem?_eq_some_iff.1 hu).1
      have h7 : raw.flatten[k * 3 + i]? = some u := by
        have : ∀ (raw : List (List Value)) (k : Nat) (r : List Value), (∀ r ∈ raw, r.length = 3) → raw[k]? = some r → raw.flatten[k * 3 + i]? = r[i]? := by
          intro raw
          induction raw with
          | nil => intro k r _ h; simp at h
          | cons a q ih =>
            intro k r hl hk
            have ha := hl a (by simp)
            cases k with
            | zero =>
              simp at hk; subst hk
              simp only [List.flatten_cons, Nat.zero_mul, Nat.zero_add]
              rw [List.getElem?_append_left (by rw [ha]; exact hi)]
            | succ k =>
              simp only [List.flatten_cons]
              rw [List.getElem?_append_right (by rw [ha]; omega), ha, show (k + 1) * 3 + i - 3 = k * 3 + i by omega]
              exact ih k r (fun r hr => hl r (by simp [hr])) (by simpa using hk)
        rw [this raw k _ h2 q2, hu]
      have h8 := h3.cells (g := g) rfl _ _ h7
      rw [add_none] at h8
      rw [show 0 + k * 3 + i = 0 + (k * 3 + i) by omega]
      exact h8
    obtain ⟨A, c, e1, e2⟩ := own_sl vec_len (vec_read w) q3
    injection e1 with e1a e1b e1c
    subst e1a e1c
    exact ⟨hr 0 _ rfl, hr 1 _ rfl, _, _, _, hr 2 _ rfl, e2⟩
theorem OwnSky.sky {base : Nat} {w : World} {v1 v2 v3 : Value} {s : Sky} {bs : List Nat} (h : OwnSky base w v1 v2 v3 s bs) :
    ∃ A1 c1 A2 c2 A3 c3, v1 = .slice A1 s.world.bodies.length c1 ∧ v2 = .slice A2 s.stations.length c2 ∧ v3 = .slice A3 s.catalogs.length c3 ∧ IsSky w A1 s.world.bodies.length s.world.home A2 s.stations.length A3 s.catalogs.length s := by
  obtain ⟨A1, c1, rfl, h1⟩ := h.bodies.sl
  obtain ⟨A2, c2, rfl, h2⟩ := own_sl stn_len (stn_read w) h.stations
  obtain ⟨A3, c3, rfl, h3⟩ := own_sl cat_len (cat_read w) h.catalogs
  exact ⟨A1, c1, A2, c2, A3, c3, rfl, rfl, rfl, h1, rfl, h2, h3⟩
theorem OwnSky.ext {base : Nat} {w w' : World} {v1 v2 v3 : Value} {s : Sky} {bs : List Nat} (h : OwnSky base w v1 v2 v3 s bs) (e : Ext w w') : OwnSky base w' v1 v2 v3 s bs :=
  ⟨h.bodies.ext e, own_ext_keep h.stations e, own_ext_keep h.catalogs e⟩

end Go.Proofs.YtfniicgoeljmdaaGreat

namespace Go.Proofs.YtfniicgoeljmdaaGreat
open Go.RowKit

def atM (l : List Body) (home body tick : Int) : Vec :=
  if wldErr ⟨l, home⟩ = 0 ∧ (0 ≤ body ∧ body < l.length) ∧ within tick 0 1073741824 = true then trackAt (l.getD body.toNat ⟨0, 0, []⟩).track tick else ⟨0, 0⟩
theorem atM_no {l : List Body} {home body tick : Int} (h : ¬ (wldErr ⟨l, home⟩ = 0 ∧ (0 ≤ body ∧ body < l.length) ∧ within tick 0 1073741824 = true)) : atM l home body tick = ⟨0, 0⟩ := if_neg h
theorem atM_yes {l : List Body} {home tick : Int} {k : Nat} {x : Body} (h : wldErr ⟨l, home⟩ = 0) (hx : l[k]? = some x) (ht : within tick 0 1073741824 = true) : atM l home k tick = trackAt x.track tick := by
  have hk : k < l.length := (List.getElem?_eq_some_iff.1 hx).1
  rw [atM, if_pos ⟨h, ⟨by omega, by omega⟩, ht⟩, Int.toNat_natCast, List.getD_eq_getElem?_getD, hx]
  rfl

set_option maxRecDepth 4000 in
set_option maxHeartbeats 1000000 in
theorem At_c (A : Option Addr) (n c : Nat) (home body tick : Int) (l : List Body) (w : World) (hl : Bodies w A n l) :
    Calls Tryz.prog 223 #[.agg #[.slice A n c, .int .i64 home], .int .i64 body, .int .i64 tick] w fun e w' => e = .returned (.agg #[.int .i64 (atM l home body tick).x, .int .i64 (atM l home body tick).y]) ∧ Ext w w' := by
  have hn := hl.le
  have hln := hl.len
  have HW := Lib.hid fun W (hW : Ext w W) => CheckWorld_c A n c home l W (Bodies.ext hW hl)
  by_cases h0 : wldErr ⟨l, home⟩ = 0
  · rw [h0] at HW
    by_cases hb : 0 ≤ body ∧ body < l.length
    · obtain ⟨k, rfl⟩ := Int.eq_ofNat_of_zero_le hb.1
      have hk : k < l.length := by omega
      have hx : l[k]? = some l[k] := List.getElem?_eq_getElem hk
      generalize l[k] = x at hx
      cases ht : within tick 0 1073741824
      · rw [atM_no (by simp [ht])]
        have Ht := Lib.hid ht
        have hkn : k < n := by omega
        clear h0 hx ht hln hl hb hk
        go_enter Tryz.func223, Tryz.ntmps223
        go_wp2_with fail
        refine (HW.out _ (by (repeat' (first | exact Ext.refl _ | assumption | apply Ext.alloc | apply Ext.drew | refine Ext.set ?_ (by dsimp only; omega) _ | refine Ext.trans ?_ (by assumption))))).mono ?_
        rintro e w1 ⟨rfl, h1⟩; obtain ⟨hc_w1, hf_w1, hz_w1⟩ := bcell h1; (repeat (first | rw [World.size_alloc] at hz_w1 | rw [World.size_drew] at hz_w1 | rw [World.size_setCell] at hz_w1)); have : w.heap.size < w1.heap.size := (by omega); have : w.heap.size + 1 < w1.heap.size := (by omega)
        go_wp2_with fail
        refine (within_c _ _ _ _).mono ?_
        rintro e w3 ⟨rfl, rfl⟩
        rw [Ht.out]
        go_wp2_with fail
        (try simp only [Exit.inBlock, Exit.then]); apply bodyPost_ret; (focus (simp only [results, Tryz.results223]; go_simp; try rfl)); rfl
        exact ⟨rfl, by (repeat' (first | exact Ext.refl _ | assumption | apply Ext.alloc | apply Ext.drew | refine Ext.set ?_ (by dsimp only; omega) _ | refine Ext.trans ?_ (by assumption)))⟩
      · rw [atM_yes h0 hx ht]
        have Ht := Lib.hid ht
        have hkn : k < n := by omega
        have hbd := body_ok ((wld_ok h0).2.2 x (List.mem_of_getElem? hx))
        have ht' := (within_iff _ _ _).1 ht
        obtain ⟨hin, b, off, rfl, hc⟩ := hl.get hx
        clear h0 hx ht hln hb hk hl
        go_enter Tryz.func223, Tryz.ntmps223
        go_wp2_with fail
        refine (HW.out _ (by (repeat' (first | exact Ext.refl _ | assumption | apply Ext.alloc | apply Ext.drew | refine Ext.set ?_ (by dsimp only; omega) _ | refine Ext.trans ?_ (by assumption))))).mono ?_
        rintro e w1 ⟨rfl, h1⟩; obtain ⟨hc_w1, hf_w1, hz_w1⟩ := bcell h1; (repeat (first | rw [World.size_alloc] at hz_w1 | rw [World.size_drew] at hz_w1 | rw [World.size_setCell] at hz_w1)); have : w.heap.size < w1.heap.size := (by omega); have : w.heap.size + 1 < w1.heap.size := (by omega)
        obtain ⟨hd0, hd1, A', n', c', hd2, hl'⟩ := bodyAt.ext (show Ext w w1 by (repeat' (first | exact Ext.refl _ | assumption | apply Ext.alloc | apply Ext.drew | refine Ext.set ?_ (by dsimp only; omega) _ | refine Ext.trans ?_ (by assumption)))) hc
        have hb0 := World.block_lt_of_cell? w1 _ hd0
        dsimp only at hb0
        have HT := Lib.hid fun W (hW : Ext w1 W) => trackat_c A' n' c' x.track tick W (Vecs.ext hW hl') hbd.1 ht'.1 ht'.2
        clear hl' hc hbd ht'
        go_wp2_with fail
        refine (within_c _ _ _ _).mono ?_
        rintro e w3 ⟨rfl, rfl⟩
        rw [Ht.out]
        go_wp2_with fail
        refine (HT.out _ (by (repeat' (first | exact Ext.refl _ | assumption | apply Ext.alloc | apply Ext.drew | refine Ext.set ?_ (by dsimp only; omega) _ | refine Ext.trans ?_ (by assumption))))).mono ?_
        rintro e w2 ⟨rfl, h2⟩; obtain ⟨hc_w2, hf_w2, hz_w2⟩ := bcell h2; (repeat (first | rw [World.size_alloc] at hz_w2 | rw [World.size_drew] at hz_w2 | rw [World.size_setCell] at hz_w2)); have : w.heap.size < w2.heap.size := (by omega); have : w.heap.size + 1 < w2.heap.size := (by omega)
        go_wp2_with fail
        (try simp only [Exit.inBlock, Exit.then]); apply bodyPost_ret; (focus (simp only [results, Tryz.results223]; go_simp; try rfl)); rfl
        exact ⟨rfl, by (repeat' (first | exact Ext.refl _ | assumption | apply Ext.alloc | apply Ext.drew | refine Ext.set ?_ (by dsimp only; omega) _ | refine Ext.trans ?_ (by assumption)))⟩
    · rw [atM_no (fun h => hb h.2.1)]
      clear h0
      by_cases hb0 : body < 0
      · clear hb hl hln
        go_enter Tryz.func223, Tryz.ntmps223
        go_wp2_with fail
        refine (HW.out _ (by (repeat' (first | exact Ext.refl _ | assumption | apply Ext.alloc | apply Ext.drew | refine Ext.set ?_ (by dsimp only; omega) _ | refine Ext.trans ?_ (by assumption))))).mono ?_
        rintro e w1 ⟨rfl, h1⟩; obtain ⟨hc_w1, hf_w1, hz_w1⟩ := bcell h1; (repeat (first | rw [World.size_alloc] at hz_w1 | rw [World.size_drew] at hz_w1 | rw [World.size_setCell] at hz_w1)); have : w.heap.size < w1.heap.size := (by omega); have : w.heap.size + 1 < w1.heap.size := (by omega)
        go_wp2_with fail
        (try simp only [Exit.inBlock, Exit.then]); apply bodyPost_ret; (focus (simp only [results, Tryz.results223]; go_simp; try rfl)); rfl
        exact ⟨rfl, by (repeat' (first | exact Ext.refl _ | assumption | apply Ext.alloc | apply Ext.drew | refine Ext.set ?_ (by dsimp only; omega) _ | refine Ext.trans ?_ (by assumption)))⟩
      · have hb1 : (n : Int) ≤ body := by omega
        have hb2 : 0 ≤ body := by omega
        clear hb hl hln hb0
        go_enter Tryz.func223, Tryz.ntmps223
        go_wp2_with fail
        refine (HW.out _ (by (repeat' (first | exact Ext.refl _ | assumption | apply Ext.alloc | apply Ext.drew | refine Ext.set ?_ (by dsimp only; omega) _ | refine Ext.trans ?_ (by assumption))))).mono ?_
        rintro e w1 ⟨rfl, h1⟩; obtain ⟨hc_w1, hf_w1, hz_w1⟩ := bcell h1; (repeat (first | rw [World.size_alloc] at hz_w1 | rw [World.size_drew] at hz_w1 | rw [World.size_setCell] at hz_w1)); have : w.heap.size < w1.heap.size := (by omega); have : w.heap.size + 1 < w1.heap.size := (by omega)
        go_wp2_with fail
        (try simp only [Exit.inBlock, Exit.then]); apply bodyPost_ret; (focus (simp only [results, Tryz.results223]; go_simp; try rfl)); rfl
        exact ⟨rfl, by (repeat' (first | exact Ext.refl _ | assumption | apply Ext.alloc | apply Ext.drew | refine Ext.set ?_ (by dsimp only; omega) _ | refine Ext.trans ?_ (by assumption)))⟩
  · rw [atM_no (fun h => h0 h.1)]
    have h0' : (wldErr ⟨l, home⟩ != 0) = true := by simpa using h0
    generalize wldErr ⟨l, home⟩ = M at *
    clear hl hln h0
    go_enter Tryz.func223, Tryz.ntmps223
    go_wp2_with fail
    refine (HW.out _ (by (repeat' (first | exact Ext.refl _ | assumption | apply Ext.alloc | apply Ext.drew | refine Ext.set ?_ (by dsimp only; omega) _ | refine Ext.trans ?_ (by assumption))))).mono ?_
    rintro e w1 ⟨rfl, h1⟩; obtain ⟨hc_w1, hf_w1, hz_w1⟩ := bcell h1; (repeat (first | rw [World.size_alloc] at hz_w1 | rw [World.size_drew] at hz_w1 | rw [World.size_setCell] at hz_w1)); have : w.heap.size < w1.heap.size := (by omega); have : w.heap.size + 1 < w1.heap.size := (by omega)
    go_wp2_with fail
    (try simp only [Exit.inBlock, Exit.then]); apply bodyPost_ret; (focus (simp only [results, Tryz.results223]; go_simp; try rfl)); rfl
    exact ⟨rfl, by (repeat' (first | exact Ext.refl _ | assumption | apply Ext.alloc | apply Ext.drew | refine Ext.set ?_ (by dsimp only; omega) _ | refine Ext.trans ?_ (by assumption)))⟩

set_option maxRecDepth 4000 in
set_option maxHeartbeats 1000000 in
theorem refAt_c (A : Option Addr) (n c : Nat) (home body tick : Int) (l : List Body) (w : World) (hl : Bodies w A n l) :
    Calls Tryz.prog 209 #[.agg #[.slice A n c, .int .i64 home], .int .i64 body, .int .i64 tick] w fun e w' => e = .returned (.agg #[.int .i64 (atM l home body tick).x, .int .i64 (atM l home body tick).y]) ∧ Ext w w' := by
  have hn := hl.le
  have hln := hl.len
  have HW := Lib.hid fun W (hW : Ext w W) => refWorld_c A n c home l W (Bodies.ext hW hl)
  by_cases h0 : wldErr ⟨l, home⟩ = 0
  · rw [h0] at HW
    by_cases hb : 0 ≤ body ∧ body < l.length
    · obtain ⟨k, rfl⟩ := Int.eq_ofNat_of_zero_le hb.1
      have hk : k < l.length := by omega
      have hx : l[k]? = some l[k] := List.getElem?_eq_getElem hk
      generalize l[k] = x at hx
      cases ht : within tick 0 1073741824
      · rw [atM_no (by simp [ht])]
        have Ht := Lib.hid ht
        have hkn : k < n := by omega
        clear h0 hx ht hln hl hb hk
        go_enter Tryz.func209, Tryz.ntmps209
        go_wp2_with fail
        refine (HW.out _ (by (repeat' (first | exact Ext.refl _ | assumption | apply Ext.alloc | apply Ext.drew | refine Ext.set ?_ (by dsimp only; omega) _ | refine Ext.trans ?_ (by assumption))))).mono ?_
        rintro e w1 ⟨rfl, h1⟩; obtain ⟨hc_w1, hf_w1, hz_w1⟩ := bcell h1; (repeat (first | rw [World.size_alloc] at hz_w1 | rw [World.size_drew] at hz_w1 | rw [World.size_setCell] at hz_w1)); have : w.heap.size < w1.heap.size := (by omega); have : w.heap.size + 1 < w1.heap.size := (by omega)
        go_wp2_with fail
        refine (between_c _ _ _ _).mono ?_
        rintro e w3 ⟨rfl, rfl⟩
        rw [Ht.out]
        go_wp2_with fail
        (try simp only [Exit.inBlock, Exit.then]); apply bodyPost_ret; (focus (simp only [results, Tryz.results209]; go_simp; try rfl)); rfl
        exact ⟨rfl, by (repeat' (first | exact Ext.refl _ | assumption | apply Ext.alloc | apply Ext.drew | refine Ext.set ?_ (by dsimp only; omega) _ | refine Ext.trans ?_ (by assumption)))⟩
      · rw [atM_yes h0 hx ht]
        have Ht := Lib.hid ht
        have hkn : k < n := by omega
        have hbd := body_ok ((wld_ok h0).2.2 x (List.mem_of_getElem? hx))
        have ht' := (within_iff _ _ _).1 ht
        have HT := Lib.hid fun W (hW : Ext w W) => refat_c A n c home l k x tick W (Bodies.ext hW hl) hx hbd.1 ht'.1 ht'.2
        clear h0 hx ht hln hb hk hl hbd ht'
        go_enter Tryz.func209, Tryz.ntmps209
        go_wp2_with fail
        refine (HW.out _ (by (repeat' (first | exact Ext.refl _ | assumption | apply Ext.alloc | apply Ext.drew | refine Ext.set ?_ (by dsimp only; omega) _ | refine Ext.trans ?_ (by assumption))))).mono ?_
        rintro e w1 ⟨rfl, h1⟩; obtain ⟨hc_w1, hf_w1, hz_w1⟩ := bcell h1; (repeat (first | rw [World.size_alloc] at hz_w1 | rw [World.size_drew] at hz_w1 | rw [World.size_setCell] at hz_w1)); have : w.heap.size < w1.heap.size := (by omega); have : w.heap.size + 1 < w1.heap.size := (by omega)
        go_wp2_with fail
        refine (between_c _ _ _ _).mono ?_
        rintro e w3 ⟨rfl, rfl⟩
        rw [Ht.out]
        go_wp2_with fail
        refine (HT.out _ (by (repeat' (first | exact Ext.refl _ | assumption | apply Ext.alloc | apply Ext.drew | refine Ext.set ?_ (by dsimp only; omega) _ | refine Ext.trans ?_ (by assumption))))).mono ?_
        rintro e w2 ⟨rfl, h2⟩; obtain ⟨hc_w2, hf_w2, hz_w2⟩ := bcell h2; (repeat (first | rw [World.size_alloc] at hz_w2 | rw [World.size_drew] at hz_w2 | rw [World.size_setCell] at hz_w2)); have : w.heap.size < w2.heap.size := (by omega); have : w.heap.size + 1 < w2.heap.size := (by omega)
        go_wp2_with fail
        (try simp only [Exit.inBlock, Exit.then]); apply bodyPost_ret; (focus (simp only [results, Tryz.results209]; go_simp; try rfl)); rfl
        exact ⟨rfl, by (repeat' (first | exact Ext.refl _ | assumption | apply Ext.alloc | apply Ext.drew | refine Ext.set ?_ (by dsimp only; omega) _ | refine Ext.trans ?_ (by assumption)))⟩
    · rw [atM_no (fun h => hb h.2.1)]
      clear h0
      by_cases hb0 : body < 0
      · clear hb hl hln
        go_enter Tryz.func209, Tryz.ntmps209
        go_wp2_with fail
        refine (HW.out _ (by (repeat' (first | exact Ext.refl _ | assumption | apply Ext.alloc | apply Ext.drew | refine Ext.set ?_ (by dsimp only; omega) _ | refine Ext.trans ?_ (by assumption))))).mono ?_
        rintro e w1 ⟨rfl, h1⟩; obtain ⟨hc_w1, hf_w1, hz_w1⟩ := bcell h1; (repeat (first | rw [World.size_alloc] at hz_w1 | rw [World.size_drew] at hz_w1 | rw [World.size_setCell] at hz_w1)); have : w.heap.size < w1.heap.size := (by omega); have : w.heap.size + 1 < w1.heap.size := (by omega)
        go_wp2_with fail
        (try simp only [Exit.inBlock, Exit.then]); apply bodyPost_ret; (focus (simp only [results, Tryz.results209]; go_simp; try rfl)); rfl
        exact ⟨rfl, by (repeat' (first | exact Ext.refl _ | assumption | apply Ext.alloc | apply Ext.drew | refine Ext.set ?_ (by dsimp only; omega) _ | refine Ext.trans ?_ (by assumption)))⟩
      · have hb1 : (n : Int) ≤ body := by omega
        have hb2 : 0 ≤ body := by omega
        clear hb hl hln hb0
        go_enter Tryz.func209, Tryz.ntmps209
        go_wp2_with fail
        refine (HW.out _ (by (repeat' (first | exact Ext.refl _ | assumption | apply Ext.alloc | apply Ext.drew | refine Ext.set ?_ (by dsimp only; omega) _ | refine Ext.trans ?_ (by assumption))))).mono ?_
        rintro e w1 ⟨rfl, h1⟩; obtain ⟨hc_w1, hf_w1, hz_w1⟩ := bcell h1; (repeat (first | rw [World.size_alloc] at hz_w1 | rw [World.size_drew] at hz_w1 | rw [World.size_setCell] at hz_w1)); have : w.heap.size < w1.heap.size := (by omega); have : w.heap.size + 1 < w1.heap.size := (by omega)
        go_wp2_with fail
        (try simp only [Exit.inBlock, Exit.then]); apply bodyPost_ret; (focus (simp only [results, Tryz.results209]; go_simp; try rfl)); rfl
        exact ⟨rfl, by (repeat' (first | exact Ext.refl _ | assumption | apply Ext.alloc | apply Ext.drew | refine Ext.set ?_ (by dsimp only; omega) _ | refine Ext.trans ?_ (by assumption)))⟩
  · rw [atM_no (fun h => h0 h.1)]
    have h0' : (wldErr ⟨l, home⟩ != 0) = true := by simpa using h0
    generalize wldErr ⟨l, home⟩ = M at *
    clear hl hln h0
    go_enter Tryz.func209, Tryz.ntmps209
    go_wp2_with fail
    refine (HW.out _ (by (repeat' (first | exact Ext.refl _ | assumption | apply Ext.alloc | apply Ext.drew | refine Ext.set ?_ (by dsimp only; omega) _ | refine Ext.trans ?_ (by assumption))))).mono ?_
    rintro e w1 ⟨rfl, h1⟩; obtain ⟨hc_w1, hf_w1, hz_w1⟩ := bcell h1; (repeat (first | rw [World.size_alloc] at hz_w1 | rw [World.size_drew] at hz_w1 | rw [World.size_setCell] at hz_w1)); have : w.heap.size < w1.heap.size := (by omega); have : w.heap.size + 1 < w1.heap.size := (by omega)
    go_wp2_with fail
    (try simp only [Exit.inBlock, Exit.then]); apply bodyPost_ret; (focus (simp only [results, Tryz.results209]; go_simp; try rfl)); rfl
    exact ⟨rfl, by (repeat' (first | exact Ext.refl _ | assumption | apply Ext.alloc | apply Ext.drew | refine Ext.set ?_ (by dsimp only; omega) _ | refine Ext.trans ?_ (by assumption)))⟩
end Go.Proofs.YtfniicgoeljmdaaGreat
