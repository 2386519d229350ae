/- A sky that is made of numbers is valid. No condition. -/
import Derived.Test.YtfniicgoeljmdaaGreatSkyOf
import Derived.Test.YtfniicgoeljmdaaGreatAgree
namespace Go.Proofs.YtfniicgoeljmdaaGreat
open Go.RowKit

theorem idx_none {α : Type} {p : α → Bool} {l : List α} (h : ∀ x ∈ l, p x = false) : hasP p l = false := by
  have : ∀ (l : List α) (k : Nat), (∀ x ∈ l, p x = false) → idxFrom p l k = -1 := by
    intro l
    induction l with
    | nil => intro k _; rfl
    | cons x r ih => intro k h; rw [idxFrom, h x (by simp)]; exact ih _ fun y hy => h y (by simp [hy])
  simp [hasP, this l 0 h]
theorem goodB.ok {b : Body} (h : goodB b) : bodyErr b = 0 := by
  obtain ⟨h1, h2, h3, h4⟩ := h
  have e1 : within b.mu 0 1125899906842624 = true := (within_iff _ _ _).2 (by omega)
  have e2 : within b.radius 0 1048576 = true := (within_iff _ _ _).2 (by omega)
  have e3 : hasP (fun p => !near p 33554432) b.track = false := idx_none fun x hx => by
    have := h4 x hx
    rw [(near_iff _ _).2 (by omega)]; rfl
  rw [bodyErr, e1, e2, e3, if_neg (by simp), if_neg (by omega), if_neg (by omega), if_neg (by simp)]
theorem bodies_good : ∀ {l : List Body}, (∀ b ∈ l, goodB b) → bodiesErr l = 0
  | [], _ => rfl
  | b :: r, h => by rw [bodiesErr, if_pos (h b (by simp)).ok]; exact bodies_good fun x hx => h x (by simp [hx])
theorem stns_good : ∀ {l : List Stn} {last : Int}, l.Pairwise (fun a b => a.id < b.id) → (∀ x ∈ l, last < x.id ∧ near x.off 1048576 = true) → stnsErr l last = 0
  | [], _, _, _ => rfl
  | x :: r, last, h, k => by
    have h1 := k x (by simp)
    rw [stnsErr, if_neg (by omega), h1.2, if_neg (by simp)]
    have h2 := List.pairwise_cons.1 h
    exact stns_good h2.2 fun y hy => ⟨h2.1 y hy, (k y (by simp [hy])).2⟩
theorem cats_good : ∀ {l : List Cat} {last : Int}, l.Pairwise (fun a b => a.version < b.version) → (∀ x ∈ l, last < x.version ∧ -500000 ≤ x.lo ∧ x.lo ≤ x.hi ∧ x.hi ≤ 500000) → catsErr l last = 0
  | [], _, _, _ => rfl
  | x :: r, last, h, k => by
    have h1 := k x (by simp)
    rw [catsErr, if_neg (by omega), if_neg (by omega)]
    have h2 := List.pairwise_cons.1 h
    exact cats_good h2.2 fun y hy => ⟨h2.1 y hy, (k y (by simp [hy])).2⟩
theorem MadeSky.ok {s : Sky} (h : MadeSky s) : skyErr s = 0 := by
  have h1 : wldErr s.world = 0 := by
    have := h.nb; have := h.home
    rw [wldErr, if_neg (by omega), if_neg (by omega), bodies_good h.bodies, if_neg (by simp), if_neg (by omega)]
  obtain ⟨i, hi, _⟩ := h.stations
  obtain ⟨j, hj, _⟩ := h.catalogs
  have h2 : stnsErr s.stations 0 = 0 := stns_good hi.1 fun x hx => by
    have := hi.2 x hx
    exact ⟨by omega, (near_iff _ _).2 (by omega)⟩
  have h3 : catsErr s.catalogs 0 = 0 := cats_good hj.1 fun x hx => by
    have := hj.2 x hx
    omega
  have := h.ns; have := h.nc
  rw [skyErr, h1, if_neg (by simp), if_neg (by omega), h2, if_neg (by simp), if_neg (by omega), h3]
theorem MadeSky.home_at {s : Sky} (h : MadeSky s) (t : Int) : (-2000 ≤ (homeAt s t).x ∧ (homeAt s t).x ≤ 2000) ∧ -2000 ≤ (homeAt s t).y ∧ (homeAt s t).y ≤ 2000 := by
  obtain ⟨k, x, _, hx, h0, ht⟩ := home_get h.ok
  rw [ht]
  exact (h.bodies x (List.mem_of_getElem? hx)).2.2.2 _ (trackAt_mem h0 t)
theorem stn_some : ∀ {l : List Stn} {x : Stn}, x ∈ l → (stnOf l x.id).isSome = true
  | [], _, h => by cases h
  | y :: r, x, h => by
    unfold stnOf
    rw [List.find?_isSome]
    exact ⟨x, h, by simp⟩
theorem cat_some : ∀ {l : List Cat} {x : Cat}, x ∈ l → (catOf l x.version).isSome = true
  | [], _, h => by cases h
  | y :: r, x, h => by
    unfold catOf
    rw [List.find?_isSome]
    exact ⟨x, h, by simp⟩

structure MadeSight (s : Sky) (x : Sight) : Prop where
  kind : 1 ≤ x.kind ∧ x.kind ≤ 3
  tick : 0 ≤ x.tick ∧ x.tick ≤ 1000
  stn : (stnOf s.stations x.station).isSome = true
  cat : (catOf s.catalogs x.catalog).isSome = true
  dir : (-4096 ≤ x.dx ∧ x.dx ≤ 4096) ∧ (-4096 ≤ x.dy ∧ x.dy ≤ 4096) ∧ ¬ (x.dx = 0 ∧ x.dy = 0)
  err : 0 ≤ x.err ∧ x.err < 40000
  lo : 0 ≤ x.lo ∧ x.lo < 1000
  hi : 1 ≤ x.hi ∧ x.hi ≤ 7000
  gt : x.kind ≠ 3 → x.lo < x.hi
theorem MadeSight.ok {s : Sky} {x : Sight} (hs : MadeSky s) (h : MadeSight s x) : sightErr2 s x = 0 := by
  have h1 := h.kind; have h2 := h.tick; have h3 := h.dir; have h4 := h.err; have h5 := h.lo; have h6 := h.hi; have h7 := h.gt
  have e1 : dirErr x = false := by
    have a1 : near ⟨x.dx, x.dy⟩ 4096 = true := (near_iff _ _).2 ⟨h3.1, h3.2.1⟩
    have a2 : within x.err 0 500000 = true := (within_iff _ _ _).2 (by omega)
    have a3 : (x.dx == 0 && x.dy == 0) = false := by
      have := h3.2.2
      simpa [Bool.and_eq_false_iff] using this
    rw [dirErr, a1, a2, a3]; rfl
  have e2 : within x.tick 0 1073741824 = true := (within_iff _ _ _).2 (by omega)
  have e3 : within x.hi 1 134217728 = true := (within_iff _ _ _).2 (by omega)
  rw [sightErr2, hs.ok, if_neg (by simp), sightErr, if_neg (by omega), e2, if_neg (by simp), h.stn, if_neg (by simp)]
  by_cases k2 : x.kind = 2
  · rw [if_pos k2, if_neg (by have := h7 (by omega); omega)]
  · rw [if_neg k2, h.cat, if_neg (by simp), e1, if_neg (by simp), e3]
    simp
theorem MadeSky.orig {s : Sky} (h : MadeSky s) {id t : Int} (hst : (stnOf s.stations id).isSome = true) (ht : 0 ≤ t ∧ t ≤ 1073741824) :
    ∃ p, whereM s id t = some p ∧ (-2040 ≤ p.x ∧ p.x ≤ 2040) ∧ -2040 ≤ p.y ∧ p.y ≤ 2040 := by
  obtain ⟨st, hst⟩ := Option.isSome_iff_exists.1 hst
  obtain ⟨i, hi, _⟩ := h.stations
  have h1 := hi.2 st (stnOf_mem hst)
  have h2 := h.home_at t
  refine ⟨addV (homeAt s t) st.off, ?_, ?_⟩
  · rw [whereM, if_pos ⟨h.ok, (within_iff _ _ _).2 ht⟩, hst]
    rfl
  · unfold addV
    dsimp only
    omega

theorem IsRing.two {wb w : World} {g : Nat} {B : Int} (r : IsRing wb w g B) {b o : Nat} {x y : Int} (h1 : w.cell? ⟨b, o, none⟩ = some (.int .i64 x)) (h2 : w.cell? ⟨b, o + 1, none⟩ = some (.int .i64 y)) : b ≠ g := by
  rintro rfl
  obtain ⟨A, m, c, l, at_, _, hb, _⟩ := r.blk
  have hc := hb.cell
  match o with
  | 0 => rw [hc] at h1; simp at h1
  | o + 1 => rw [hc] at h2; simp at h2
theorem IsRing.keeps {wb w w' : World} {g : Nat} {B : Int} (_r : IsRing wb w g B) (k : Wr w g w') {b o : Nat} {v : Value} (hb : b ≠ g) (h : w.cell? ⟨b, o, none⟩ = some v) : w'.cell? ⟨b, o, none⟩ = some v := by
  rw [(Wr.cells k).1 b o (World.block_lt_of_cell? w _ h) hb]; exact h
section
variable {wb w w' : World} {g : Nat} {B : Int} (r : IsRing wb w g B) (k : Wr w g w')
include r k
theorem vecAt.wr {p : Vec} {b o : Nat} (h : vecAt w p b o) : vecAt w' p b o := by
  have hb := r.two h.1 h.2
  exact ⟨r.keeps k hb h.1, r.keeps k hb h.2⟩
theorem stnAt.wr {p : Stn} {b o : Nat} (h : stnAt w p b o) : stnAt w' p b o := by
  have hb := r.two h.1 h.2.1
  exact ⟨r.keeps k hb h.1, r.keeps k hb h.2.1, r.keeps k hb h.2.2⟩
theorem catAt.wr {p : Cat} {b o : Nat} (h : catAt w p b o) : catAt w' p b o := by
  have hb := r.two h.1 h.2.1
  exact ⟨r.keeps k hb h.1, r.keeps k hb h.2.1, r.keeps k hb h.2.2⟩
theorem stAt.wr {p : St} {b o : Nat} (h : stAt w p b o) : stAt w' p b o := by
  have hb := r.two h.1 h.2.1
  exact ⟨r.keeps k hb h.1, r.keeps k hb h.2.1, r.keeps k hb h.2.2.1, r.keeps k hb h.2.2.2⟩
theorem sightAt.wr {p : Sight} {b o : Nat} (h : sightAt w p b o) : sightAt w' p b o := by
  obtain ⟨h0, h1, h2, h3, h4, h5, h6, h7, h8⟩ := h
  have hb := r.two h0 h1
  exact ⟨r.keeps k hb h0, r.keeps k hb h1, r.keeps k hb h2, r.keeps k hb h3, r.keeps k hb h4, r.keeps k hb h5, r.keeps k hb h6, r.keeps k hb h7, r.keeps k hb h8⟩
theorem Vecs.wr {A n l} (h : Vecs w A n l) : Vecs w' A n l := SlR.mono h fun _ _ _ _ => vecAt.wr r k
theorem bodyAt.wr {p : Body} {b o : Nat} (h : bodyAt w p b o) : bodyAt w' p b o := by
  obtain ⟨h0, h1, A, n, c, h2, h3⟩ := h
  have hb := r.two h0 h1
  exact ⟨r.keeps k hb h0, r.keeps k hb h1, A, n, c, r.keeps k hb h2, Vecs.wr r k h3⟩
theorem Bodies.wr {A n l} (h : Bodies w A n l) : Bodies w' A n l := SlR.mono h fun _ _ _ _ => bodyAt.wr r k
theorem Stns.wr {A n l} (h : Stns w A n l) : Stns w' A n l := SlR.mono h fun _ _ _ _ => stnAt.wr r k
theorem Cats.wr {A n l} (h : Cats w A n l) : Cats w' A n l := SlR.mono h fun _ _ _ _ => catAt.wr r k
theorem Sights.wr {A n l} (h : Sights w A n l) : Sights w' A n l := SlR.mono h fun _ _ _ _ => sightAt.wr r k
theorem Sts.wr {A n l} (h : Sts w A n l) : Sts w' A n l := SlR.mono h fun _ _ _ _ => stAt.wr r k
theorem IsSky.wr {A1 n1 home A2 n2 A3 n3 s} (h : IsSky w A1 n1 home A2 n2 A3 n3 s) : IsSky w' A1 n1 home A2 n2 A3 n3 s :=
  ⟨Bodies.wr r k h.bodies, h.home, Stns.wr r k h.stations, Cats.wr r k h.catalogs⟩
end
end Go.Proofs.YtfniicgoeljmdaaGreat
