/- Worlds that are moved: the plain law. No condition. A copy of a sky, its tracks moved place by place. No condition. -/
import Derived.Test.YtmgjjgmadiabfaaOutLaw
import Derived.Test.YtmgjjgmadiabfaaMade
import Derived.Test.YtmgjjgmadiabfaaCopySky
namespace Go.Proofs.Ytmgjjgmadiabfaa
open Go.RowKit

def mvV (mx my : Int) (p : Vec) : Vec := ⟨p.x + mx, p.y + my⟩
def mvB (mx my : Int) (b : Body) : Body := ⟨b.mu, b.radius, b.track.map (mvV mx my)⟩
def mvS (mx my : Int) (s : Sky) : Sky := ⟨⟨s.world.bodies.map (mvB mx my), s.world.home⟩, s.stations, s.catalogs⟩
def mvX (f : Int) (x : Sight) : Sight := ⟨x.kind, x.station, x.catalog, x.tick, x.dx * f, x.dy * f, x.err, x.lo, x.hi⟩

theorem mv_body {mx my : Int} (h1 : 0 ≤ mx ∧ mx < 100000) (h2 : 0 ≤ my ∧ my < 100000) {b : Body} (h : goodB b) : bodyErr (mvB mx my b) = 0 := by
  obtain ⟨g1, g2, g3, g4⟩ := h
  have e1 : within b.mu 0 1125899906842624 = true := (within_iff _ _ _).2 (by omega)
  have e2 : within b.radius 0 1048576 = true := (within_iff _ _ _).2 (by omega)
  have e3 : hasP (fun p => !near p 33554432) (b.track.map (mvV mx my)) = false := idx_none fun x hx => by
    obtain ⟨p, hp, rfl⟩ := List.mem_map.1 hx
    have := g4 p hp
    rw [(near_iff _ _).2 (by unfold mvV; dsimp only; omega)]; rfl
  have hl : (b.track.map (mvV mx my)).length = b.track.length := by simp
  unfold mvB
  rw [bodyErr, e1, e2, e3, if_neg (by simp), if_neg (by dsimp only; omega), if_neg (by dsimp only; omega), if_neg (by simp)]
theorem mv_ok {mx my : Int} (h1 : 0 ≤ mx ∧ mx < 100000) (h2 : 0 ≤ my ∧ my < 100000) {s : Sky} (h : MadeSky s) : skyErr (mvS mx my s) = 0 := by
  have hb : ∀ l : List Body, (∀ b ∈ l, goodB b) → bodiesErr (l.map (mvB mx my)) = 0 := by
    intro l
    induction l with
    | nil => intro _; rfl
    | cons b r ih =>
      intro k
      rw [List.map_cons, bodiesErr, if_pos (mv_body h1 h2 (k b (by simp)))]
      exact ih fun x hx => k x (by simp [hx])
  have h0 := h.ok
  have hw := (sky_ok h0).1
  have hl := h.nb
  have hh := h.home
  have hl2 : (s.world.bodies.map (mvB mx my)).length = s.world.bodies.length := by simp
  have e1 : wldErr (mvS mx my s).world = 0 := by
    unfold mvS
    dsimp only
    unfold wldErr
    dsimp only
    rw [hb _ h.bodies]
    rw [if_neg (by omega), if_neg (by omega), if_neg (by simp), if_neg (by omega)]
  rw [skyErr] at h0 ⊢
  rw [e1, if_neg (by simp)]
  rw [hw, if_neg (by simp)] at h0
  exact h0
theorem mv_home {mx my : Int} {s : Sky} (h : MadeSky s) (t : Int) : homeAt (mvS mx my s) t = mvV mx my (homeAt s t) := by
  have hh := h.home
  have hk : s.world.home.toNat < s.world.bodies.length := by omega
  have hb := (h.bodies _ (List.getElem_mem hk)).2.2.1.1
  have hlt := Nat.mod_lt t.toNat hb
  unfold homeAt mvS trackAt
  dsimp only
  simp [List.getD_eq_getElem?_getD, List.getElem?_eq_getElem hk, List.getElem?_map, mvB, List.getElem?_eq_getElem hlt]
theorem mv_orig {mx my f : Int} (h1 : 0 ≤ mx ∧ mx < 100000) (h2 : 0 ≤ my ∧ my < 100000) {s : Sky} (h : MadeSky s) {x : Sight} (hx : MadeSight s x) : orig (mvS mx my s) (mvX f x) = mvV mx my (orig s x) := by
  obtain ⟨st, hst⟩ := Option.isSome_iff_exists.1 hx.stn
  have ht : within x.tick 0 1073741824 = true := (within_iff _ _ _).2 (by have := hx.tick; omega)
  unfold orig whereM mvX
  dsimp only
  rw [if_pos ⟨mv_ok h1 h2 h, ht⟩, if_pos ⟨h.ok, ht⟩, mv_home h]
  have : (mvS mx my s).stations = s.stations := rfl
  rw [this, hst]
  simp only [Option.map_some, optV, addV, mvV, Vec.mk.injEq]
  omega
theorem mv_cross (mx my f fx fy dx dy x y : Int) : crossD (fx + mx) (fy + my) (dx * f) (dy * f) (x + mx) (y + my) = f * crossD fx fy dx dy x y := by
  unfold crossD
  rw [show y + my - (fy + my) = y - fy by omega, show x + mx - (fx + mx) = x - fx by omega]
  generalize y - fy = u
  generalize x - fx = v
  rw [Int.mul_sub, Int.mul_comm dx f, Int.mul_comm dy f, Int.mul_assoc, Int.mul_assoc]
theorem mv_dot (mx my f fx fy dx dy x y : Int) : dotD (fx + mx) (fy + my) (dx * f) (dy * f) (x + mx) (y + my) = f * dotD fx fy dx dy x y := by
  unfold dotD
  rw [show y + my - (fy + my) = y - fy by omega, show x + mx - (fx + mx) = x - fx by omega, Int.mul_add, Int.mul_comm dx f, Int.mul_comm dy f, Int.mul_assoc, Int.mul_assoc]
theorem mv_dist (mx my fx fy x y : Int) : distD (x + mx) (y + my) (fx + mx) (fy + my) = distD x y fx fy := by
  unfold distD
  rw [show y + my - (fy + my) = y - fy by omega, show x + mx - (fx + mx) = x - fx by omega]
section
variable (mx my fx fy dx dy x y k : Int) {f : Int} (hf : 1 ≤ f)
include hf
theorem mv_behind : behindB (fx + mx) (fy + my) (dx * f) (dy * f) (x + mx) (y + my) = behindB fx fy dx dy x y := by
  unfold behindB
  rw [mv_dot]
  generalize dotD fx fy dx dy x y = d
  rw [decide_eq_decide]
  constructor
  · intro h
    rcases Int.lt_or_le 0 d with hd | hd
    · have := Int.mul_pos (show 0 < f by omega) hd; omega
    · exact hd
  · intro h
    exact Int.mul_nonpos_of_nonneg_of_nonpos (by omega) h
theorem mv_below : belowB (fx + mx) (fy + my) (dx * f) (dy * f) k (x + mx) (y + my) = belowB fx fy dx dy k x y := by
  unfold belowB
  rw [mv_dot, mv_cross, ← Int.mul_assoc, ← Int.mul_assoc, Int.mul_comm 1000000 f, Int.mul_comm k f, Int.mul_assoc, Int.mul_assoc, decide_eq_decide]
  exact ⟨fun h => Int.lt_of_mul_lt_mul_left h (by omega), fun h => Int.mul_lt_mul_of_pos_left h (by omega)⟩
theorem mv_above : aboveB (fx + mx) (fy + my) (dx * f) (dy * f) k (x + mx) (y + my) = aboveB fx fy dx dy k x y := by
  unfold aboveB
  rw [mv_dot, mv_cross, ← Int.mul_assoc, ← Int.mul_assoc, Int.mul_comm 1000000 f, Int.mul_comm k f, Int.mul_assoc, Int.mul_assoc, decide_eq_decide]
  exact ⟨fun h => Int.lt_of_mul_lt_mul_left h (by omega), fun h => Int.mul_lt_mul_of_pos_left h (by omega)⟩
end
/-- Nothing changes. -/
theorem moved_law (s : Sky) (hm : MadeSky s) (x : Sight) (hx : MadeSight s x) (mx my f : Int) (h1 : 0 ≤ mx ∧ mx < 100000) (h2 : 0 ≤ my ∧ my < 100000) (hf : 1 ≤ f) (hdx : -4096 ≤ x.dx * f ∧ x.dx * f ≤ 4096) (hdy : -4096 ≤ x.dy * f ∧ x.dy * f ≤ 4096)
    (px py : Int) (hp : (-10000 ≤ px ∧ px ≤ 10000) ∧ -10000 ≤ py ∧ py ≤ 10000) (xl xh yl yh : Int) (hr : (-10000 ≤ xl ∧ xl ≤ xh ∧ xh ≤ 10000) ∧ -10000 ≤ yl ∧ yl ≤ yh ∧ yh ≤ 10000) :
    agreesAll (mvS mx my s) (mvX f x) (px + mx) (py + my) = agreesAll s x px py ∧ exclAll (mvS mx my s) (mvX f x) (xl + mx) (xh + mx) (yl + my) (yh + my) = exclAll s x xl xh yl yh := by
  have e0 := hx.ok hm
  have hy : MadeSight s (mvX f x) := by
    have hd := hx.dir
    refine ⟨hx.kind, hx.tick, hx.stn, hx.cat, ⟨hdx, hdy, ?_⟩, hx.err, hx.lo, hx.hi, hx.gt⟩
    unfold mvX
    dsimp only
    intro h
    refine hd.2.2 ⟨?_, ?_⟩
    · rcases Int.mul_eq_zero.1 h.1 with h | h
      · exact h
      · omega
    · rcases Int.mul_eq_zero.1 h.2 with h | h
      · exact h
      · omega
  have e1 : sightErr2 (mvS mx my s) (mvX f x) = 0 := by
    have h3 := hy.ok hm
    rw [sightErr2, hm.ok, if_neg (by simp)] at h3
    rw [sightErr2, mv_ok h1 h2 hm, if_neg (by simp)]
    exact h3
  have ho := mv_orig (f := f) h1 h2 hm hx
  have n1 : near ⟨px, py⟩ 33554432 = true := (near_iff _ _).2 (by dsimp only; omega)
  have n2 : near ⟨px + mx, py + my⟩ 33554432 = true := (near_iff _ _).2 (by dsimp only; omega)
  have r1 : rightA xl xh yl yh = true := rightA_iff.2 (by omega)
  have r2 : rightA (xl + mx) (xh + mx) (yl + my) (yh + my) = true := rightA_iff.2 (by omega)
  have bl : biasLo (mvS mx my s) (mvX f x) = biasLo s x := rfl
  have bh : biasHi (mvS mx my s) (mvX f x) = biasHi s x := rfl
  have hn : ∀ n m lo hi : Int, nearM (n + m) (lo + m) (hi + m) = nearM n lo hi + m := fun n m lo hi => by unfold nearM; omega
  unfold agreesAll exclAll
  rw [e0, e1, n1, n2, r1, r2]
  simp only [decide_true, Bool.true_and]
  unfold agreesM exclM nearestP inB
  rw [ho, bl, bh]
  simp only [cornersL, List.all_cons, List.all_nil, Bool.and_true, mvX, mvV, hn, mv_dist, mv_behind _ _ _ _ _ _ _ _ hf, mv_below _ _ _ _ _ _ _ _ _ hf, mv_above _ _ _ _ _ _ _ _ _ hf]
  exact ⟨trivial, trivial⟩
end Go.Proofs.Ytmgjjgmadiabfaa

namespace Go.Proofs.Ytmgjjgmadiabfaa
open Go.RowKit

theorem vecs_set : ∀ (l : List Vec) (j : Nat) (p : Vec), ((l.flatMap vecC).set (j * 2) (.int .i64 p.x)).set (j * 2 + 1) (.int .i64 p.y) = (l.set j p).flatMap vecC
  | [], j, p => by simp
  | x :: r, 0, p => by simp [vecC]
  | x :: r, j + 1, p => by
    have h := vecs_set r j p
    have e : (j + 1) * 2 = j * 2 + 1 + 1 := by omega
    rw [List.set_cons_succ, List.flatMap_cons, List.flatMap_cons, ← h, e]
    simp [vecC]
theorem flat3 {i : Nat} (hi : i < 3) : ∀ (raw : List (List Value)) (k : Nat) (r : List Value), (∀ r ∈ raw, r.length = 3) → raw[k]? = some r → raw.flatten[k * 3 + i]? = r[i]?
  | [], _, _, _, h => by simp at h
  | a :: q, 0, r, hl, hk => by
    have ha := hl a (by simp)
    simp at hk; subst hk
    simp only [List.flatten_cons, Nat.zero_mul, Nat.zero_add]
    rw [List.getElem?_append_left (by rw [ha]; exact hi)]
  | a :: q, k + 1, r, hl, hk => by
    have ha := hl a (by simp)
    simp only [List.flatten_cons]
    rw [List.getElem?_append_right (by rw [ha]; omega), ha, show (k + 1) * 3 + i - 3 = k * 3 + i by omega]
    exact flat3 hi q k r (fun r hr => hl r (by simp [hr])) (by simpa using hk)
/-- One body of an own list: where its track lies. -/
theorem own_body {base : Nat} {w : World} {A : Option Addr} {n c : Nat} {l : List Body} {bs : List Nat} (h : OwnBodies base w (.slice A n c) l bs) {k : Nat} (hk : k < l.length) :
    ∃ g bk cap, A = some ⟨g, 0, none⟩ ∧ n = l.length ∧ bs[k]? = some bk ∧ w.cell? ⟨g, k * 3 + 2, none⟩ = some (.slice (some ⟨bk, 0, none⟩) l[k].track.length cap) ∧
      w.ownsRow base 30 2 (.slice (some ⟨bk, 0, none⟩) l[k].track.length cap) l[k].track.length (l[k].track.flatMap vecC) := by
  obtain ⟨raw, h1, h2, h3, h4, h5, h6⟩ := h
  obtain ⟨bk, cap, g1, g2, g3⟩ := h5 k hk
  rcases h3.2 with ⟨hx, h0⟩ | ⟨g, cp, cur, hx, hbg, hg, hnc, hcm, hcs, htk⟩
  · omega
  · injection hx with e1 e2 e3
    subst e1 e2 e3
    refine ⟨g, bk, cap, rfl, rfl, g1, ?_, g3⟩
    rw [h3.cellAt (k * 3 + 2) (by omega), flat3 (by omega) raw k _ h2 g2]
    rfl
theorem own_move {base : Nat} {w : World} {v : Value} {l : List Body} {bs : List Nat} (h : OwnBodies base w v l bs) {k : Nat} (hk : k < l.length) {bk : Nat} (hb : bs[k]? = some bk) (j : Nat) (p : Vec) :
    OwnBodies base ((w.setCell ⟨bk, j * 2, none⟩ (.int .i64 p.x)).setCell ⟨bk, j * 2 + 1, none⟩ (.int .i64 p.y)) v (l.set k ⟨l[k].mu, l[k].radius, l[k].track.set j p⟩) bs := by
  obtain ⟨raw, h1, h2, h3, h4, h5, h6⟩ := h
  obtain ⟨bk', cap, g1, g2, g3⟩ := h5 k hk
  rw [hb] at g1
  injection g1 with g1
  subst g1
  have hne : v.ownBlock ≠ some bk := by
    rcases own_ne g3 h3 (by decide) with e | e
    · cases e
    · exact fun e2 => e (by rw [e2]; rfl)
  refine ⟨raw, by simpa using h1, h2, ?_, by simpa using h4, fun k' hk' => ?_, h6⟩
  · rw [List.length_set]
    exact own_set (own_set h3 hne _) hne _
  · rw [List.length_set] at hk'
    by_cases e : k' = k
    · subst e
      rw [List.getElem_set_self]
      refine ⟨bk, cap, hb, by simpa using g2, ?_⟩
      have g4 := ((g3.stored (j * 2) (.int .i64 p.x)).1.stored (j * 2 + 1) (.int .i64 p.y)).1
      rw [vecs_set] at g4
      dsimp only
      rw [List.length_set]
      exact g4
    · rw [List.getElem_set_ne (fun x => e x.symm)]
      obtain ⟨b', c', q1, q2, q3⟩ := h5 k' hk'
      have hbb : b' ≠ bk := by
        rintro rfl
        have hi := List.getElem?_eq_some_iff.1 q1
        have hj := List.getElem?_eq_some_iff.1 hb
        obtain ⟨hi1, hi2⟩ := hi
        obtain ⟨hj1, hj2⟩ := hj
        rcases Nat.lt_trichotomy k' k with hl | hl | hl
        · have := List.pairwise_iff_getElem.1 h6 k' k hi1 hj1 hl; omega
        · exact e hl
        · have := List.pairwise_iff_getElem.1 h6 k k' hj1 hi1 hl; omega
      have hn : (Value.slice (some ⟨b', 0, none⟩) l[k'].track.length c').ownBlock ≠ some bk := by
        intro e2
        simp only [Value.ownBlock, Option.some.injEq] at e2
        exact hbb e2
      exact ⟨b', c', q1, q2, own_set (own_set q3 hn _) hn _⟩
/-- Of a list the first j elements, changed; the others as they were. -/
def part {α : Type} (f : α → α) (l : List α) (j : Nat) : List α := (l.take j).map f ++ l.drop j
theorem part_len {α : Type} (f : α → α) (l : List α) (j : Nat) : (part f l j).length = l.length := by
  unfold part
  simp
  omega
theorem part_zero {α : Type} (f : α → α) (l : List α) : part f l 0 = l := by simp [part]
theorem part_all {α : Type} (f : α → α) (l : List α) : part f l l.length = l.map f := by simp [part]
theorem part_get {α : Type} (f : α → α) (l : List α) (j : Nat) (h : j < l.length) : (part f l j)[j]'(by rw [part_len]; exact h) = l[j] := by
  unfold part
  rw [List.getElem_append_right (by simp; omega)]
  simp [Nat.min_eq_left (Nat.le_of_lt h)]
theorem part_step {α : Type} (f : α → α) (l : List α) (j : Nat) (h : j < l.length) : (part f l j).set j (f l[j]) = part f l (j + 1) := by
  have e : l.drop j = l[j] :: l.drop (j + 1) := List.drop_eq_getElem_cons h
  have hl : ((l.take j).map f).length = j := by simp; omega
  unfold part
  rw [List.set_append_right _ _ (by omega), hl, Nat.sub_self, e, List.set_cons_zero, List.take_add_one, List.getElem?_eq_getElem h]
  simp only [Option.toList_some, List.map_append, List.map_cons, List.map_nil, List.append_assoc, List.cons_append, List.nil_append]
/-- Cells of a block, one after the other. -/
def wrL (b : Nat) : World → Nat → List Value → World
  | w, _, [] => w
  | w, i, v :: r => wrL b (w.setCell ⟨b, i, none⟩ v) (i + 1) r
theorem Ext.setL {a : World} {b : Nat} (hb : a.heap.size ≤ b) : ∀ (l : List Value) {w : World} (i : Nat), Ext a w → Ext a (wrL b w i l)
  | [], _, _, h => h
  | _ :: r, _, _, h => Ext.setL hb r _ (Ext.set h (by exact hb) _)
theorem Blk.setL {b : Nat} {t : TypeId} : ∀ (l : List Value) {w : World} {cs : Array Value} (i : Nat), Blk w b t cs → ∃ cs', Blk (wrL b w i l) b t cs'
  | [], _, cs, _, h => ⟨cs, h⟩
  | _ :: r, _, _, _, h => Blk.setL r _ (h.set_ _ _)
theorem Blk.farL {b g : Nat} {t : TypeId} {cs : Array Value} (hn : g ≠ b) : ∀ (l : List Value) {w : World} (i : Nat), Blk w g t cs → Blk (wrL b w i l) g t cs
  | [], _, _, h => h
  | _ :: r, _, i, h => Blk.farL hn r _ (h.far (p := ⟨b, i, none⟩) hn _)
theorem OwnSky.apart {base : Nat} {w : World} {v1 v2 v3 : Value} {s : Sky} {bs : List Nat} (h : OwnSky base w v1 v2 v3 s bs) {b : Nat} {t : TypeId} {cs : Array Value} (hb : Blk w b t cs)
    (h1 : 67 ≠ t) (h2 : 30 ≠ t) (h3 : 95 ≠ t) (h4 : 99 ≠ t) (i : Nat) (u : Value) : OwnSky base (w.setCell ⟨b, i, none⟩ u) v1 v2 v3 s bs := by
  obtain ⟨⟨raw, q1, q2, q3, q4, q5, q6⟩, hs, hc⟩ := h
  refine ⟨⟨raw, q1, q2, own_set q3 (own_blk q3 hb h1) u, q4, fun k hk => ?_, q6⟩, own_set hs (own_blk hs hb h3) u, own_set hc (own_blk hc hb h4) u⟩
  obtain ⟨bk, cap, g1, g2, g3⟩ := q5 k hk
  exact ⟨bk, cap, g1, g2, own_set g3 (own_blk g3 hb h2) u⟩
theorem OwnSky.setL {base : Nat} {v1 v2 v3 : Value} {s : Sky} {bs : List Nat} {b : Nat} {t : TypeId}
    (h1 : 67 ≠ t) (h2 : 30 ≠ t) (h3 : 95 ≠ t) (h4 : 99 ≠ t) : ∀ (l : List Value) {w : World} {cs : Array Value} (i : Nat), Blk w b t cs → OwnSky base w v1 v2 v3 s bs → OwnSky base (wrL b w i l) v1 v2 v3 s bs
  | [], _, _, _, _, h => h
  | _ :: r, _, _, _, hb, h => OwnSky.setL h1 h2 h3 h4 r _ (hb.set_ _ _) (h.apart hb h1 h2 h3 h4 _ _)
theorem vec_at : ∀ (l : List Vec) (j : Nat) (h : j < l.length), (l.flatMap vecC)[j * 2]? = some (.int .i64 l[j].x) ∧ (l.flatMap vecC)[j * 2 + 1]? = some (.int .i64 l[j].y)
  | [], j, h => by simp at h
  | x :: r, 0, h => by simp [vecC]
  | x :: r, j + 1, h => by
    have h' := vec_at r j (by simpa using h)
    have e : (j + 1) * 2 = j * 2 + 1 + 1 := by omega
    rw [List.flatMap_cons, e]
    simpa [vecC] using h'
/-- One body of an own list, a place in its track: what is read there. -/
theorem own_place {base : Nat} {w : World} {A : Option Addr} {n c : Nat} {l : List Body} {bs : List Nat} (h : OwnBodies base w (.slice A n c) l bs) {k : Nat} (hk : k < l.length) {bk : Nat} (hb : bs[k]? = some bk) {j : Nat} (hj : j < l[k].track.length) :
    base ≤ bk ∧ bk < w.heap.size ∧ (∀ i, w.frozen? ⟨bk, i, none⟩ = false) ∧ w.cell? ⟨bk, j * 2, none⟩ = some (.int .i64 l[k].track[j].x) ∧ w.cell? ⟨bk, j * 2 + 1, none⟩ = some (.int .i64 l[k].track[j].y) := by
  obtain ⟨g, bk', cap, _, _, h3, _, h5⟩ := own_body h hk
  rw [hb] at h3
  injection h3 with h3
  subst h3
  have hl := h5.lt bk rfl
  have hv := vec_at l[k].track j hj
  refine ⟨hl.1, hl.2, fun i => h5.frozenAt i, ?_, ?_⟩
  · rw [h5.cellAt _ (by omega)]; exact hv.1
  · rw [h5.cellAt _ (by omega)]; exact hv.2
theorem part_body (mx my : Int) (l : List Body) (j : Nat) (h : j < l.length) : (part (mvB mx my) l j).set j ⟨l[j].mu, l[j].radius, part (mvV mx my) l[j].track l[j].track.length⟩ = part (mvB mx my) l (j + 1) := by
  rw [part_all, ← part_step (mvB mx my) l j h]
  rfl
theorem part_body0 (mx my : Int) (l : List Body) (j : Nat) (h : j < l.length) : (part (mvB mx my) l j).set j ⟨l[j].mu, l[j].radius, part (mvV mx my) l[j].track 0⟩ = part (mvB mx my) l j := by
  rw [part_zero]
  have h2 := part_get (mvB mx my) l j h
  apply List.ext_getElem (by simp)
  intro i h3 h4
  by_cases e : i = j
  · subst e
    rw [List.getElem_set_self, h2]
  · rw [List.getElem_set_ne (fun x => e x.symm)]
/-- A place moves. -/
theorem own_step {base : Nat} {w : World} {v1 v2 v3 : Value} {lb : List Body} {home : Int} {st : List Stn} {ct : List Cat} {bs : List Nat} {b : Body} {tr : List Vec} {k : Nat} (h : OwnSky base w v1 v2 v3 ⟨⟨lb.set k ⟨b.mu, b.radius, tr⟩, home⟩, st, ct⟩ bs)
    (hk : k < lb.length) {bk : Nat} (hb : bs[k]? = some bk) (j : Nat) (p : Vec) : OwnSky base ((w.setCell ⟨bk, j * 2, none⟩ (.int .i64 p.x)).setCell ⟨bk, j * 2 + 1, none⟩ (.int .i64 p.y)) v1 v2 v3 ⟨⟨lb.set k ⟨b.mu, b.radius, tr.set j p⟩, home⟩, st, ct⟩ bs := by
  have hk' : k < (lb.set k ⟨b.mu, b.radius, tr⟩).length := by simpa using hk
  have h1 := own_move h.bodies hk' hb j p
  rw [List.getElem_set_self, List.set_set] at h1
  have h2 := h.bodies
  obtain ⟨raw, q1, q2, q3, q4, q5, q6⟩ := h2
  obtain ⟨bk', cap, g1, g2, g3⟩ := q5 k hk'
  rw [hb] at g1
  injection g1 with g1
  subst g1
  have n2 : v2.ownBlock ≠ some bk := by
    rcases own_ne g3 h.stations (by decide) with e | e
    · cases e
    · exact fun e2 => e (by rw [e2]; rfl)
  have n3 : v3.ownBlock ≠ some bk := by
    rcases own_ne g3 h.catalogs (by decide) with e | e
    · cases e
    · exact fun e2 => e (by rw [e2]; rfl)
  exact ⟨h1, own_set (own_set h.stations n2 _) n2 _, own_set (own_set h.catalogs n3 _) n3 _⟩
theorem own_place2 {base : Nat} {w : World} {A : Option Addr} {n c : Nat} {v2 v3 : Value} {lb : List Body} {home : Int} {st : List Stn} {ct : List Cat} {bs : List Nat} {b : Body} {f : Vec → Vec} {tr : List Vec} {k q : Nat}
    (h : OwnSky base w (.slice A n c) v2 v3 ⟨⟨lb.set k ⟨b.mu, b.radius, part f tr q⟩, home⟩, st, ct⟩ bs) (hk : k < lb.length) {bk : Nat} (hb : bs[k]? = some bk) (hq : q < tr.length) :
    (base ≤ bk ∧ bk < w.heap.size) ∧ (∀ i, w.frozen? ⟨bk, i, none⟩ = false) ∧ (w.cell? ⟨bk, q * 2, none⟩ = some (.int .i64 tr[q].x) ∧ w.cell? ⟨bk, q * 2 + 1, none⟩ = some (.int .i64 tr[q].y)) ∧
      ∀ b' t cs, Blk w b' t cs → 30 ≠ t → b' ≠ bk := by
  have hk' : k < (lb.set k ⟨b.mu, b.radius, part f tr q⟩).length := by simpa using hk
  have e : (lb.set k ⟨b.mu, b.radius, part f tr q⟩)[k] = ⟨b.mu, b.radius, part f tr q⟩ := List.getElem_set_self hk'
  have hj : q < ((lb.set k ⟨b.mu, b.radius, part f tr q⟩)[k]).track.length := by rw [e]; dsimp only; rw [part_len]; exact hq
  have h1 := own_place h.bodies hk' hb hj
  have e2 : ((lb.set k ⟨b.mu, b.radius, part f tr q⟩)[k]).track[q] = tr[q] := by simp [part_get f tr q hq]
  rw [e2] at h1
  refine ⟨⟨h1.1, h1.2.1⟩, h1.2.2.1, h1.2.2.2, fun b' t cs hB hne => ?_⟩
  obtain ⟨g, bk', cap, _, _, h3, _, h5⟩ := own_body h.bodies hk'
  rw [hb] at h3
  injection h3 with h3
  subst h3
  rintro rfl
  exact own_blk h5 hB hne rfl
end Go.Proofs.Ytmgjjgmadiabfaa
