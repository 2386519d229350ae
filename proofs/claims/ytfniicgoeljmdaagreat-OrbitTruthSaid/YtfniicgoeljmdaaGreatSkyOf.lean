/- A sky made of numbers. No condition. -/
import Derived.Test.YtfniicgoeljmdaaGreatRing
import Derived.Test.YtfniicgoeljmdaaGreatOwnInts
namespace Go.Proofs.YtfniicgoeljmdaaGreat
open Go.RowKit

theorem OwnBodies.wr {wb w w' : World} {g : Nat} {B : Int} {base : Nat} {v : Value} {l : List Body} {bs : List Nat} (h : OwnBodies base w v l bs) (r : IsRing wb w g B) (e : Wr w g w') : OwnBodies base w' v l bs := by
  obtain ⟨raw, h1, h2, h3, h4, h5, h6⟩ := h
  refine ⟨raw, h1, h2, own_wr h3 r (by decide) e, h4, fun k hk => ?_, h6⟩
  obtain ⟨bk, cap, g1, g2, g3⟩ := h5 k hk
  exact ⟨bk, cap, g1, g2, own_wr g3 r (by decide) e⟩

theorem own_wr2 {wb w w' : World} {g : Nat} {B : Int} {base base' : Nat} {e e' : TypeId} {sz sz' : Nat} {v v' : Value} {n n' : Nat} {xs xs' : List Value} (ho : w.ownsRow base e sz v n xs) (r : IsRing wb w g B) (he : e ≠ 150)
    (ho' : w.ownsRow base' e' sz' v' n' xs') (hne : e ≠ e') (k : Wr2 w g (rowOr v' g) w') : w'.ownsRow base e sz v n xs := by
  have h1 := r.ne ho he
  have h2 := own_ne ho ho' hne
  refine ⟨ho.1, ?_⟩
  rcases ho.2 with hn | ⟨b, cap, cur, rfl, hbg, hg, rest⟩
  · exact .inl hn
  · have n1 : b ≠ g := fun e => h1 (by rw [← e]; rfl)
    refine .inr ⟨b, cap, cur, rfl, hbg, (k.block b (Array.getElem?_eq_some_iff.1 hg).1 n1 ?_).trans hg, rest⟩
    rcases h2 with h2 | h2
    · cases h2
    · unfold rowOr
      cases hv : v'.ownBlock with
      | none => exact n1
      | some x => intro e; rw [hv] at h2; exact h2 (by rw [e]; rfl)
theorem OwnBodies.wr2 {wb w w' : World} {g : Nat} {B : Int} {base base' : Nat} {v v' : Value} {l : List Body} {bs : List Nat} {e' : TypeId} {sz' n' : Nat} {xs' : List Value} (h : OwnBodies base w v l bs) (r : IsRing wb w g B)
    (ho' : w.ownsRow base' e' sz' v' n' xs') (h1 : 97 ≠ e') (h2 : 85 ≠ e') (k : Wr2 w g (rowOr v' g) w') : OwnBodies base w' v l bs := by
  obtain ⟨raw, q1, q2, q3, q4, q5, q6⟩ := h
  refine ⟨raw, q1, q2, own_wr2 q3 r (by decide) ho' h1 k, q4, fun j hj => ?_, q6⟩
  obtain ⟨bk, cap, g1, g2, g3⟩ := q5 j hj
  exact ⟨bk, cap, g1, g2, own_wr2 g3 r (by decide) ho' h2 k⟩
theorem OwnBodies.some {base : Nat} {w : World} {v : Value} {l : List Body} {bs : List Nat} (h : OwnBodies base w v l bs) (hl : 0 < l.length) : ∃ b c, v = .slice (some ⟨b, 0, none⟩) l.length c := by
  obtain ⟨raw, q1, q2, q3, q4, q5, q6⟩ := h
  obtain ⟨b, c, rfl, _⟩ := own_some q3 (by
    rintro rfl
    rcases q3.2 with ⟨_, h0⟩ | ⟨_, _, _, h0, _⟩
    · omega
    · cases h0)
  exact ⟨b, c, rfl⟩

theorem OwnSky.mono {base base' : Nat} {w : World} {v1 v2 v3 : Value} {s : Sky} {bs : List Nat} (h : OwnSky base w v1 v2 v3 s bs) (hb : base' ≤ base) : OwnSky base' w v1 v2 v3 s bs :=
  ⟨h.bodies.mono hb, own_mono h.stations hb, own_mono h.catalogs hb⟩
theorem OwnSky.set {base : Nat} {w : World} {v1 v2 v3 : Value} {s : Sky} {bs : List Nat} (h : OwnSky base w v1 v2 v3 s bs) {p : Addr} (hp : p.block < base) (u : Value) : OwnSky base (w.setCell p u) v1 v2 v3 s bs :=
  ⟨h.bodies.set hp u, own_set h.stations (own_block_ge h.stations hp) u, own_set h.catalogs (own_block_ge h.catalogs hp) u⟩
theorem OwnSky.wr {wb w w' : World} {g : Nat} {B : Int} {base : Nat} {v1 v2 v3 : Value} {s : Sky} {bs : List Nat} (h : OwnSky base w v1 v2 v3 s bs) (r : IsRing wb w g B) (e : Wr w g w') : OwnSky base w' v1 v2 v3 s bs :=
  ⟨h.bodies.wr r e, own_wr h.stations r (by decide) e, own_wr h.catalogs r (by decide) e⟩

def goodB (b : Body) : Prop := (0 ≤ b.mu ∧ b.mu < 1048576) ∧ (0 ≤ b.radius ∧ b.radius < 50) ∧ (1 ≤ b.track.length ∧ b.track.length ≤ 4) ∧ ∀ p ∈ b.track, (-2000 ≤ p.x ∧ p.x ≤ 2000) ∧ -2000 ≤ p.y ∧ p.y ≤ 2000
def goodStns (l : List Stn) (id : Int) : Prop := l.Pairwise (fun a b => a.id < b.id) ∧ ∀ x ∈ l, (1 ≤ x.id ∧ x.id ≤ id) ∧ (-40 ≤ x.off.x ∧ x.off.x ≤ 40) ∧ -40 ≤ x.off.y ∧ x.off.y ≤ 40
def goodCats (l : List Cat) (id : Int) : Prop := l.Pairwise (fun a b => a.version < b.version) ∧ ∀ x ∈ l, (1 ≤ x.version ∧ x.version ≤ id) ∧ -10000 ≤ x.lo ∧ x.lo ≤ 10000 ∧ x.lo ≤ x.hi ∧ x.hi ≤ x.lo + 9998
structure MadeSky (s : Sky) : Prop where
  nb : 1 ≤ s.world.bodies.length ∧ s.world.bodies.length ≤ 3
  bodies : ∀ b ∈ s.world.bodies, goodB b
  home : 0 ≤ s.world.home ∧ s.world.home < s.world.bodies.length
  ns : 1 ≤ s.stations.length ∧ s.stations.length ≤ 3
  stations : ∃ id, goodStns s.stations id ∧ id ≤ 9
  nc : 1 ≤ s.catalogs.length ∧ s.catalogs.length ≤ 3
  catalogs : ∃ id, goodCats s.catalogs id ∧ id ≤ 9

abbrev zsky : Array Value := #[.slice none 0 0, .int .i64 0, .slice none 0 0, .slice none 0 0]

set_option maxRecDepth 4000 in
set_option maxHeartbeats 1000000 in
theorem SkyOf_c (wb : World) (g : Nat) (B : Int) (w : World) (hr : IsRing wb w g B) (hB : B ≤ 800000000) :
    Calls Tryz.prog 81 #[.pointer (some ⟨g, 0, none⟩)] w fun e w' => ∃ A1 n1 c1 home A2 n2 c2 A3 n3 c3 s, e = .returned (.agg #[.slice A1 n1 c1, .int .i64 home, .slice A2 n2 c2, .slice A3 n3 c3]) ∧ (∃ bs, OwnSky w.heap.size w' (.slice A1 n1 c1) (.slice A2 n2 c2) (.slice A3 n3 c3) s bs) ∧ IsSky w' A1 n1 home A2 n2 A3 n3 s ∧ MadeSky s ∧ Wr w g w' ∧ IsRing wb w' g (B + 60) := by
  have hg := hr.lt
  have hsz := hr.ext.size
  have hge := hr.ge
  obtain ⟨iv, hiv, hv0, hv1, hv2⟩ := info_parts info_vec
  obtain ⟨ib, hib, hb0, hb1, hb2⟩ := info_parts info_body
  obtain ⟨it, hit, ht0, ht1, ht2⟩ := info_parts info_stn
  obtain ⟨ic, hic, hk0, hk1, hk2⟩ := info_parts info_cat
  go_enter Tryz.func81, Tryz.ntmps81
  go_wp2_with fail
  refine (Next_c wb g _ _ _ (by (repeat' (first | assumption | apply IsRing.alloc | apply IsRing.drew | refine IsRing.put ?_ (by dsimp only; omega) _))) (by omega) (by omega) (by omega)).mono ?_; rintro e w1 ⟨v1, rfl, va1, vb1, hw1, hr1⟩; obtain ⟨hc1, hf1, hz1⟩ := Wr.cells hw1; (try simp only [szA] at hz1); have hg1 := hr1.lt
  have hl0 : w.heap.size < w1.heap.size := by omega
  have hl1 : w.heap.size + 1 < w1.heap.size := by omega
  have hg0 : w.heap.size ≠ g := by omega
  have hg1 : w.heap.size + 1 ≠ g := by omega
  have hBr : Blk w1 w.heap.size 53 zsky := Blk.wr (Blk.alloc (Blk.newAt rfl) _) hw1 hg0
  have hBs : Blk w1 (w.heap.size + 1) 53 zsky := Blk.wr (Blk.newAt (by simp)) hw1 hg1
  have Hw1 : Hid (Wr w g w1) := by
    show Wr w g w1
    (repeat' (first | exact Wr.refl _ _ | assumption | apply Wr.alloc | apply Wr.drew | refine Wr.put ?_ (by dsimp only; omega) _ | refine Wr.trans ?_ (by assumption)))
  go_wp2_with fail
  go_loopw [4] (fun i wr => ∃ (m : Nat) (v : Value) (l : List Body) (bs : List Nat), i = .int .i64 m ∧ l.length + m ≤ 3 ∧ 1 ≤ l.length + m ∧ Hid (∀ b ∈ l, goodB b) ∧ Hid (OwnBodies (w.heap.size + 1 + 1) wr v l bs) ∧ Hid (Blk wr (w.heap.size + 1) 53 #[v, .int .i64 0, .slice none 0 0, .slice none 0 0]) ∧
    Hid (Blk wr w.heap.size 53 zsky) ∧ Hid (Wr w g wr) ∧ IsRing wb wr g (B + 1 + 11 * (3 - m))) (fun i _ => (intOf i).toNat)
  case atStart =>
    refine ⟨(1 + v1).toNat, .slice none 0 0, [], [], by rw [Int.toNat_of_nonneg (by omega)], by simp; omega, by simp; omega, Lib.hid (by intro b hb; cases hb), OwnBodies.nil _ _, hBs, hBr, Hw1, hr1.mono (by omega)⟩
  case round =>
    obtain ⟨m, v, l, bs, rfl, hm3, hm1, HG, HO, HBs, HBr, HW, hrr⟩ := hrel
    obtain ⟨wo, rfl⟩ : ∃ wo : World, wo = wr := ⟨_, rfl⟩
    have hbs := HBs.out
    have hbr := HBr.out
    have hcS := hbs.cell
    have hfS := hbs.frozen
    have hlS := hbs.lt
    have hcR := hbr.cell
    have hfR := hbr.frozen
    have hlR := hbr.lt
    have hgr := hrr.lt
    by_cases hlt : 0 < m
    · go_wp2_with fail
      refine (Next_c wb g _ _ _ hrr (by omega) (by omega) (by omega)).mono ?_; rintro e w2 ⟨v2, rfl, va2, vb2, hw2, hr2⟩; obtain ⟨hc2, hf2, hz2⟩ := Wr.cells hw2; (try simp only [szA] at hz2); have hg2 := hr2.lt
      go_wp2_with fail
      refine (Next_c wb g _ _ _ hr2 (by omega) (by omega) (by omega)).mono ?_; rintro e w3 ⟨v3, rfl, va3, vb3, hw3, hr3⟩; obtain ⟨hc3, hf3, hz3⟩ := Wr.cells hw3; (try simp only [szA] at hz3); have hg3 := hr3.lt
      have hwo3 : Wr wo g w3 := hw2.trans hw3
      go_wp2_with fail
      refine (Next_c wb g _ _ _ (by (repeat' (first | assumption | apply IsRing.alloc | apply IsRing.drew | refine IsRing.put ?_ (by dsimp only; omega) _))) (by omega) (by omega) (by omega)).mono ?_; rintro e w4 ⟨v4, rfl, va4, vb4, hw4, hr4⟩; obtain ⟨hc4, hf4, hz4⟩ := Wr.cells hw4; (try simp only [szA] at hz4); have hg4 := hr4.lt
      have hBx : Blk w4 w3.heap.size 97 #[.int .i64 v2, .int .i64 v3, .slice none 0 0] := Blk.wr (Blk.newAt rfl) hw4 (by omega)
      have hwo4 : Wr wo g w4 := (hwo3.alloc _).trans hw4
      have hsz3 : wo.heap.size ≤ w3.heap.size := by omega
      have HB := Lib.hid hBx
      have HWo := Lib.hid hwo4
      clear hBx hwo4 hwo3 hc2 hf2 hc3 hf3 hc4 hf4 hw2 hw3 hw4
      go_wp2_with fail
      go_loopw [6] (fun i wq => ∃ (k : Nat) (vt : Value) (tr : List Vec), i = .int .i64 k ∧ tr.length + k ≤ 4 ∧ 1 ≤ tr.length + k ∧ Hid (∀ p ∈ tr, (-2000 ≤ p.x ∧ p.x ≤ 2000) ∧ -2000 ≤ p.y ∧ p.y ≤ 2000) ∧ Hid (Blk wq w3.heap.size 97 #[.int .i64 v2, .int .i64 v3, vt]) ∧
        Hid (wq.ownsRow (w3.heap.size + 1) 85 2 vt tr.length (tr.flatMap vecC)) ∧ Hid (Wr wo g wq) ∧ IsRing wb wq g (B + 1 + 11 * (3 - m) + 3 + 2 * (4 - k))) (fun i _ => (intOf i).toNat)
      case atStart =>
        refine ⟨(1 + v4).toNat, .slice none 0 0, [], by rw [Int.toNat_of_nonneg (by omega)], by simp; omega, by simp; omega, Lib.hid (by intro p hp; cases hp), HB, World.ownsRow_nil _ _ _ _, HWo, hr4.mono (by omega)⟩
      case round =>
        obtain ⟨k, vt, tr, rfl, hk4, hk1, HT, HBq, HR, HWq, hrq⟩ := hrel
        obtain ⟨wq, rfl⟩ : ∃ wq : World, wq = wr := ⟨_, rfl⟩
        have hbq := HBq.out
        have hcq := hbq.cell
        have hfq := hbq.frozen
        have hlq := hbq.lt
        have hgq := hrq.lt
        have hnq : w3.heap.size ≠ g := hrq.blkne hbq (by decide)
        have hnk : w3.heap.size ≠ rowOr vt g := rowOr_ne HR.out hbq (by decide) hnq
        by_cases hlk : 0 < k
        · go_wp2_with fail
          refine wp_region_chain0 true [([0, 1, 2], 3)] [] [4, 5, 6, 7] (Wr2 wq g (rowOr vt g)) (fun w => Wr wq g w ∧ IsRing wb w g (B + 1 + 11 * (3 - m) + 3 + 2 * (4 - k))) ((Wr.stable wq g).and (Stable.ring _ _ _)) (fun w h => h.1.two _) ⟨(Wr.refl _ _).drew, hrq.drew⟩ (by kernel_rfl) (by kernel_rfl) ?_
          repeat' (first | (refine bl_off (by rfl) ?_; simp only [putX]) | (apply bl_op; rfl; (intro w1 h1; obtain ⟨hc, hf, hz⟩ := Wr2.cells h1; go_simp; (try go_bits); (first | exact ⟨rfl, Ext.refl _⟩)); simp only [putX]) | (refine bl_split rfl rfl (fun hx => ?_) (fun hx => ?_) <;> simp only [hx]))
          refine bl_nil ?_
          simp only [pick1, List.drop_succ_cons, List.drop_zero]
          refine xe_call (f := 127) (args := #[.pointer (some ⟨g, 0, none⟩), .int .i64 2000]) (fun v => ∃ x y : Int, v = .agg #[.int .i64 x, .int .i64 y] ∧ (-2000 ≤ x ∧ x ≤ 2000) ∧ -2000 ≤ y ∧ y ≤ 2000) (fun w => Wr wq g w ∧ IsRing wb w g (B + 1 + 11 * (3 - m) + 3 + 2 * (4 - k) + 2)) rfl ((Wr.stable wq g).and (Stable.ring _ _ _)) (fun w h => h.1.two _) (fun w h => by go_simp) (fun w h => ?_) ?_
          · refine (PointOf_c wb g (B + 1 + 11 * (3 - m) + 3 + 2 * (4 - k)) 2000 w h.2 (by omega) (by omega) (by omega)).mono ?_
            rintro e w' ⟨x, y, rfl, p1, p2, p3, p4, k1, k2⟩
            exact ⟨_, rfl, ⟨x, y, rfl, ⟨p1, p2⟩, p3, p4⟩, h.1.trans k1, k2⟩
          rintro v ⟨x, y, rfl, hx, hy⟩
          simp only [putX]
          refine bl_nil ?_
          refine tl_slice (e := 85) (zs := #[.int .i64 x, .int .i64 y]) rfl ((Wr.stable wq g).and (Stable.ring _ _ _)) (fun w h => h.1.two _) (fun w => by go_simp) (fun b => ?_)
          simp only [putX]
          refine tl_append rfl (.tmp 32) (.tmp 35) 95 rfl (w3.heap.size + 1) 85 iv _ 2 16 Tryz.underlying95 hiv hv0 hv1 hv2 rfl (by decide) vt tr.length (tr.flatMap vecC) rfl b #[.int .i64 x, .int .i64 y] rfl rfl (by intro u hu; simp at hu; rcases hu with rfl | rfl <;> rfl) (by unfold maxLen; omega) (by omega) (fun w h => ⟨own_wr HR.out hrq (by decide) h.1.1, h.2, by have := h.1.1.size; omega⟩)
            (fun v' w => Wr2 wq g (rowOr vt g) w ∧ IsRing wb w g (B + 1 + 11 * (3 - m) + 3 + 2 * (4 - k) + 2) ∧ w.ownsRow (w3.heap.size + 1) 85 2 v' (tr.length + 1) (tr.flatMap vecC ++ [.int .i64 x, .int .i64 y]) ∧ Wr wo g w)
            (fun v' => (Wr2.stable _ _ _).and ((Stable.ring _ _ _).and ((Stable.own _ _ _ _ _ _).and (Wr.stable _ _)))) (fun v' w h => h.1) (fun w w' v' h k1 k2 _ => ?_) (fun bk ck => ?_)
          · obtain ⟨⟨q1, q2⟩, q3⟩ := h
            have ho := own_wr HR.out hrq (by decide) q1
            exact ⟨(q1.two _).row k2, q2.row k2 (q2.ne ho (by decide)) (own_ge ho (by omega)), k1, (HWq.out.trans q1).row k2 (own_ge ho (by omega))⟩
          simp only [putX]
          refine tl_val (v := .pointer (some ⟨w3.heap.size, 2, none⟩)) rfl ((Wr2.stable _ _ _).and ((Stable.ring _ _ _).and ((Stable.own _ _ _ _ _ _).and (Wr.stable _ _)))) (fun w h => h.1) (fun w h => by go_simp) ?_
          simp only [putX]
          refine tl_last rfl rfl (fun w5 ⟨k1, k2, k3, k4⟩ => ?_)
          have hb5 := hbq.wr2 k1 hnq hnk
          have hc5 := hb5.cell
          have hf5 := hb5.frozen
          have hl5 := hb5.lt
          refine ⟨_, (by go_simp; rfl), ?_⟩
          have hW5 : Hid (Wr wo g (w5.setCell ⟨w3.heap.size, 2, none⟩ (.slice (some ⟨bk, 0, none⟩) (tr.length + 1) ck))) := k4.put (by dsimp only; omega) _
          have hR5 : IsRing wb (w5.setCell ⟨w3.heap.size, 2, none⟩ (.slice (some ⟨bk, 0, none⟩) (tr.length + 1) ck)) g (B + 1 + 11 * (3 - m) + 3 + 2 * (4 - k) + 2) := k2.put (p := (⟨w3.heap.size, 2, none⟩ : Addr)) (And.intro (by dsimp only; omega) hnq) _
          have hB5 : Hid (Blk (w5.setCell ⟨w3.heap.size, 2, none⟩ (.slice (some ⟨bk, 0, none⟩) (tr.length + 1) ck)) w3.heap.size 97 #[.int .i64 v2, .int .i64 v3, .slice (some ⟨bk, 0, none⟩) (tr.length + 1) ck]) := hb5.set_ 2 _
          have hO5 : Hid ((w5.setCell ⟨w3.heap.size, 2, none⟩ (.slice (some ⟨bk, 0, none⟩) (tr.length + 1) ck)).ownsRow (w3.heap.size + 1) 85 2 (.slice (some ⟨bk, 0, none⟩) (tr.length + 1) ck) (tr ++ [(⟨x, y⟩ : Vec)]).length ((tr ++ [(⟨x, y⟩ : Vec)]).flatMap vecC)) := by
            have := own_set k3 (p := ⟨w3.heap.size, 2, none⟩) (by intro e; have := (k3.lt _ e).1; dsimp only at this; omega) (.slice (some ⟨bk, 0, none⟩) (tr.length + 1) ck)
            rw [List.length_append, List.flatMap_append]
            exact this
          go_wp2_with fail
          go_roundw
          case rel =>
            refine ⟨k - 1, _, tr ++ [⟨x, y⟩], by go_num, by simp; omega, by simp; omega, ?_, hB5, hO5, hW5, hR5.mono (by omega)⟩
            refine Lib.hid ?_
            intro p hp
            rcases List.mem_append.1 hp with hp | hp
            · exact HT.out p hp
            · simp at hp; subst hp; exact ⟨hx, hy⟩
          case measure => simp [intOf]; omega
        · have hk0 : k = 0 := by omega
          subst hk0
          obtain ⟨bk, cap, rfl, hbk1, hbk2⟩ := own_some HR.out (by
            rintro rfl
            have := HR.out.1
            rcases HR.out.2 with ⟨_, h0⟩ | ⟨_, _, _, h0, _⟩
            · omega
            · cases h0)
          have hbsq := Blk.wr hbs HWq.out hg1
          have hbrq := Blk.wr hbr HWq.out hg0
          have hcsq := hbsq.cell
          have hfsq := hbsq.frozen
          have hlsq := hbsq.lt
          have hkl : l.length ≤ 2 := by omega
          obtain ⟨raw, g1, g2, g3, g4, g5, g6⟩ := HO.out.wr hrr HWq.out
          have hlt2 := OwnBodies.lt HO.out
          have G := Lib.hid (And.intro g1 (And.intro g2 (And.intro g4 (And.intro g5 (And.intro g6 hlt2)))))
          have G3 := Lib.hid g3
          clear g1 g2 g3 g4 g5 g6 hlt2
          go_wp2_with (at_builtin; go_loud (refine wpList_append_sl rfl (.tmp 40) (.tmp 42) 22 rfl (w.heap.size + 1 + 1) 97 ib _ 3 40 Tryz.underlying22 hib hb0 hb1 hb2 rfl (by decide) _ l.length raw.flatten rfl (own_ext_keep G3.out ext_by) (some ⟨wq.heap.size, 0, none⟩) 1 1 [.int .i64 v2, .int .i64 v3, .slice (some ⟨bk, 0, none⟩) tr.length cap] rfl rfl (.inr ⟨_, rfl, new_cells (by simp)⟩) (by intro u hu; simp at hu; rcases hu with rfl | rfl | rfl <;> rfl) (by unfold maxLen; omega) (by omega) (by simp; omega) ?_))
          intro v6 w6 ho6 hg6 hn6
          obtain ⟨b6, c6, rfl, hb61, hb62⟩ := own_some ho6 (fun h => by
            subst h
            rcases ho6.2 with ⟨_, h0⟩ | ⟨_, _, _, h0, _⟩
            · omega
            · cases h0)
          have hoA := own_ext_keep G3.out (Ext.alloc0 wq (.cells #[.int .i64 v2, .int .i64 v3, .slice (some ⟨bk, 0, none⟩) tr.length cap] 97))
          have hb6 : Blk w6 (w.heap.size + 1) 53 #[v, .int .i64 0, .slice none 0 0, .slice none 0 0] := (hbsq.ext (Ext.alloc0 _ _)).grown hg6 (own_blk hoA (hbsq.ext (Ext.alloc0 _ _)) (by decide))
          have hr6b : Blk w6 w.heap.size 53 zsky := (hbrq.ext (Ext.alloc0 _ _)).grown hg6 (own_blk hoA (hbrq.ext (Ext.alloc0 _ _)) (by decide))
          have hring6 : IsRing wb w6 g _ := (hrq.alloc _).row hg6 ((hrq.alloc _).ne hoA (by decide)) (own_ge hoA (by omega))
          have hW6 : Wr w g w6 := ((HW.out.trans HWq.out).alloc _).row hg6 (own_ge hoA (by omega))
          have HO6 : OwnBodies (w.heap.size + 1 + 1) w6 (.slice (some ⟨b6, 0, none⟩) (l.length + 1) c6) (l ++ [⟨v2, v3, tr⟩]) (bs ++ [bk]) := by
            obtain ⟨g1, g2, g4, g5, g6, g7⟩ := G.out
            refine OwnBodies.snoc g1 g2 hoA g4 (fun j hj => ?_) g6 ⟨v2, v3, tr⟩ bk cap (own_mono (own_ext_keep HR.out (Ext.alloc0 _ _)) (by omega)) (fun b hb => ?_) hg6 ho6
            · obtain ⟨b1, c1, q1, q2, q3⟩ := g5 j hj
              exact ⟨b1, c1, q1, q2, own_ext_keep q3 (Ext.alloc0 _ _)⟩
            · have := g7 b hb; omega
          have hc6 := hb6.cell
          have hf6 := hb6.frozen
          have hl6 := hb6.lt
          have Q1 := Lib.hid hb6
          have Q2 := Lib.hid hr6b
          have Q3 := Lib.hid hring6
          have Q4 := Lib.hid hW6
          have Q5 := Lib.hid HO6
          clear hb6 hr6b hring6 hW6 HO6 ho6 hg6 hn6 hoA
          go_wp2_with fail
          go_roundw
          case rel =>
            refine ⟨m - 1, _, l ++ [⟨v2, v3, tr⟩], bs ++ [bk], by go_num, by simp; omega, by simp; omega, ?_, Lib.hid (OwnBodies.set (p := ⟨w.heap.size + 1, 0, none⟩) Q5.out (by dsimp only; omega) _), Lib.hid (Q1.out.set_ 0 _), Lib.hid (Q2.out.far (by dsimp only; omega) _), Lib.hid (Q4.out.put (by dsimp only; omega) _), IsRing.mono (Q3.out.put (And.intro (by dsimp only; omega) (by dsimp only; omega)) _) (by omega)⟩
            refine Lib.hid ?_
            intro b hb
            rcases List.mem_append.1 hb with hb | hb
            · exact HG.out b hb
            · simp at hb
              subst hb
              exact ⟨⟨by dsimp only; omega, by dsimp only; omega⟩, ⟨by dsimp only; omega, by dsimp only; omega⟩, ⟨by dsimp only; omega, by dsimp only; omega⟩, HT.out⟩
          case measure => simp [intOf]; omega
    · have hm0 : m = 0 := by omega
      subst hm0
      obtain ⟨bv, cv, rfl⟩ := HO.out.some (by omega)
      have hlen3 : l.length ≤ 3 := by omega
      have hlen1 : 1 ≤ l.length := by omega
      go_wp2_with fail
      refine (Next_c wb g _ _ _ hrr (by omega) (by omega) (by omega)).mono ?_; rintro e w2 ⟨v2, rfl, va2, vb2, hw2, hr2⟩; obtain ⟨hc2, hf2, hz2⟩ := Wr.cells hw2; (try simp only [szA] at hz2); have hg2 := hr2.lt
      have hs2 := hbs.wr hw2 hg1
      have hs2c := hs2.cell
      have hs2f := hs2.frozen
      have hs2l := hs2.lt
      have Q1 : Hid (Blk (w2.setCell ⟨w.heap.size + 1, 1, none⟩ (.int .i64 v2)) (w.heap.size + 1) 53 #[.slice (some ⟨bv, 0, none⟩) l.length cv, .int .i64 v2, .slice none 0 0, .slice none 0 0]) := hs2.set_ 1 _
      have Q2 : Hid (Blk (w2.setCell ⟨w.heap.size + 1, 1, none⟩ (.int .i64 v2)) w.heap.size 53 zsky) := (hbr.wr hw2 hg0).far (by dsimp only; omega) _
      have Q3 : IsRing wb (w2.setCell ⟨w.heap.size + 1, 1, none⟩ (.int .i64 v2)) g (B + 35) := (hr2.mono (by omega)).put (And.intro (by dsimp only; omega) hg1) _
      have Q4 : Hid (Wr w g (w2.setCell ⟨w.heap.size + 1, 1, none⟩ (.int .i64 v2))) := (HW.out.trans hw2).put (by dsimp only; omega) _
      have Q5 : Hid (OwnBodies (w.heap.size + 1 + 1) (w2.setCell ⟨w.heap.size + 1, 1, none⟩ (.int .i64 v2)) (.slice (some ⟨bv, 0, none⟩) l.length cv) l bs) := OwnBodies.set (HO.out.wr hrr hw2) (by dsimp only; omega) _
      generalize hW3 : w2.setCell ⟨w.heap.size + 1, 1, none⟩ (.int .i64 v2) = W3 at Q1 Q2 Q3 Q4 Q5
      clear hs2 hc2 hf2 hw2 hr2
      go_wp2_with fail
      clear hW3
      refine (Next_c wb g _ _ _ Q3 (by omega) (by omega) (by omega)).mono ?_; rintro e w3 ⟨v3, rfl, va3, vb3, hw3, hr3⟩; obtain ⟨hc3, hf3, hz3⟩ := Wr.cells hw3; (try simp only [szA] at hz3); have hg3 := hr3.lt
      have P1 : Hid (Blk w3 (w.heap.size + 1) 53 #[.slice (some ⟨bv, 0, none⟩) l.length cv, .int .i64 v2, .slice none 0 0, .slice none 0 0]) := Q1.out.wr hw3 hg1
      have P2 : Hid (Blk w3 w.heap.size 53 zsky) := Q2.out.wr hw3 hg0
      have P4 : Hid (Wr w g w3) := Q4.out.trans hw3
      have P5 : Hid (OwnBodies (w.heap.size + 1 + 1) w3 (.slice (some ⟨bv, 0, none⟩) l.length cv) l bs) := Q5.out.wr Q3 hw3
      clear Q1 Q2 Q4 Q5 hc3 hf3 hw3
      go_wp2_with fail
      go_loopw [7, 8] (fun j i wr => ∃ (id : Int) (m : Nat) (vs : Value) (ls : List Stn), j = .int .i64 id ∧ i = .int .i64 m ∧ 0 ≤ id ∧ id ≤ 3 * ls.length ∧ ls.length + m ≤ 3 ∧ 1 ≤ ls.length + m ∧ Hid (goodStns ls id) ∧
        Hid (Blk wr (w.heap.size + 1) 53 #[.slice (some ⟨bv, 0, none⟩) l.length cv, .int .i64 v2, vs, .slice none 0 0]) ∧ Hid (Blk wr w.heap.size 53 zsky) ∧ Hid (Wr w g wr) ∧
        Hid (OwnBodies (w.heap.size + 1 + 1) wr (.slice (some ⟨bv, 0, none⟩) l.length cv) l bs) ∧ Hid (wr.ownsRow (w.heap.size + 1 + 1) 146 3 vs ls.length (ls.flatMap stnC)) ∧ IsRing wb wr g (B + 36 + 3 * (3 - m))) (fun _ i _ => (intOf i).toNat)
      case atStart =>
        refine ⟨0, (1 + v3).toNat, .slice none 0 0, [], rfl, by rw [Int.toNat_of_nonneg (by omega)], by omega, by simp, by simp; omega, by simp; omega, Lib.hid ⟨List.Pairwise.nil, by intro p hp; cases hp⟩, P1, P2, P4, P5, World.ownsRow_nil _ _ _ _, hr3.mono (by omega)⟩
      case round =>
        obtain ⟨id, m, vs, ls, rfl, rfl, hid0, hid1, hm3, hm1, HG2, HBs, HBr, HW, HO, HOs, hrr⟩ := hrel
        obtain ⟨wq, rfl⟩ : ∃ wq : World, wq = wr := ⟨_, rfl⟩
        have hbs := HBs.out
        have hbr := HBr.out
        have hcS := hbs.cell
        have hfS := hbs.frozen
        have hlS := hbs.lt
        have hgr := hrr.lt
        by_cases hlt : 0 < m
        · go_wp2_with fail
          refine (Next_c wb g _ _ _ hrr (by omega) (by omega) (by omega)).mono ?_; rintro e w4 ⟨v4, rfl, va4, vb4, hw4, hr4⟩; obtain ⟨hc4, hf4, hz4⟩ := Wr.cells hw4; (try simp only [szA] at hz4); have hg4 := hr4.lt
          have hb4 := hbs.wr hw4 hg1
          have hc4b := hb4.cell
          have hf4b := hb4.frozen
          have hl4b := hb4.lt
          have ho4 := own_wr HOs.out hrr (by decide) hw4
          have hnk : w.heap.size + 1 ≠ rowOr vs g := rowOr_ne ho4 hb4 (by decide) hg1
          have hW4 : Wr w g w4 := HW.out.trans hw4
          have Ho4 := Lib.hid ho4
          have HW4 := Lib.hid hW4
          have HO4 := Lib.hid (HO.out.wr hrr hw4)
          have HBr4 := Lib.hid (hbr.wr hw4 hg0)
          clear ho4 hW4 hcS hfS hlS
          go_wp2_with fail
          refine wp_region_chain0 true [([0, 1, 2, 3], 4)] [] [5, 6, 7, 8, 9] (Wr2 w4 g (rowOr vs g)) (fun w => Wr w4 g w ∧ IsRing wb w g (B + 36 + 3 * (3 - m) + 1)) ((Wr.stable w4 g).and (Stable.ring _ _ _)) (fun w h => h.1.two _) ⟨(Wr.refl _ _).drew, hr4.drew⟩ (by kernel_rfl) (by kernel_rfl) ?_
          repeat' (first | (refine bl_off (by rfl) ?_; simp only [putX]) | (apply bl_op; rfl; (intro w1 h1; obtain ⟨hc, hf, hz⟩ := Wr2.cells h1; go_simp; (try go_bits); (first | exact ⟨rfl, Ext.refl _⟩)); simp only [putX]) | (refine bl_split rfl rfl (fun hx => ?_) (fun hx => ?_) <;> simp only [hx]))
          refine bl_nil ?_
          simp only [pick1, List.drop_succ_cons, List.drop_zero]
          refine xe_call (f := 127) (args := #[.pointer (some ⟨g, 0, none⟩), .int .i64 40]) (fun v => ∃ x y : Int, v = .agg #[.int .i64 x, .int .i64 y] ∧ (-40 ≤ x ∧ x ≤ 40) ∧ -40 ≤ y ∧ y ≤ 40) (fun w => Wr w4 g w ∧ IsRing wb w g (B + 36 + 3 * (3 - m) + 1 + 2)) rfl ((Wr.stable w4 g).and (Stable.ring _ _ _)) (fun w h => h.1.two _) (fun w h => by go_simp) (fun w h => ?_) ?_
          · refine (PointOf_c wb g (B + 36 + 3 * (3 - m) + 1) 40 w h.2 (by omega) (by omega) (by omega)).mono ?_
            rintro e w' ⟨x, y, rfl, p1, p2, p3, p4, k1, k2⟩
            exact ⟨_, rfl, ⟨x, y, rfl, ⟨p1, p2⟩, p3, p4⟩, h.1.trans k1, k2⟩
          rintro v ⟨x, y, rfl, hx, hy⟩
          simp only [putX]
          refine bl_nil ?_
          refine tl_val (v := .agg #[.int .i64 (id + 1 + v4), .int .i64 x, .int .i64 y]) rfl ((Wr.stable w4 g).and (Stable.ring _ _ _)) (fun w h => h.1.two _) (fun w h => by go_simp) ?_
          simp only [putX]
          refine tl_slice (e := 146) (zs := #[.int .i64 (id + 1 + v4), .int .i64 x, .int .i64 y]) rfl ((Wr.stable w4 g).and (Stable.ring _ _ _)) (fun w h => h.1.two _) (fun w => by go_simp) (fun b => ?_)
          simp only [putX]
          refine tl_append rfl (.tmp 67) (.tmp 72) 50 rfl (w.heap.size + 1 + 1) 146 it _ 3 24 Tryz.underlying50 hit ht0 ht1 ht2 rfl (by decide) vs ls.length (ls.flatMap stnC) rfl b #[.int .i64 (id + 1 + v4), .int .i64 x, .int .i64 y] rfl rfl (by intro u hu; simp at hu; rcases hu with rfl | rfl | rfl <;> rfl) (by unfold maxLen; omega) (by omega) (fun w' h => ⟨own_wr Ho4.out hr4 (by decide) h.1.1, h.2, by have := h.1.1.size; have := HW4.out.size; omega⟩)
            (fun v' w' => Wr2 w4 g (rowOr vs g) w' ∧ IsRing wb w' g (B + 36 + 3 * (3 - m) + 1 + 2) ∧ w'.ownsRow (w.heap.size + 1 + 1) 146 3 v' (ls.length + 1) (ls.flatMap stnC ++ [.int .i64 (id + 1 + v4), .int .i64 x, .int .i64 y]) ∧ Wr w g w')
            (fun v' => (Wr2.stable _ _ _).and ((Stable.ring _ _ _).and ((Stable.own _ _ _ _ _ _).and (Wr.stable _ _)))) (fun v' w h => h.1) (fun w1 w' v' h k1 k2 _ => ?_) (fun bk ck => ?_)
          · obtain ⟨⟨q1, q2⟩, q3⟩ := h
            have ho := own_wr Ho4.out hr4 (by decide) q1
            exact ⟨(q1.two _).row k2, q2.row k2 (q2.ne ho (by decide)) (own_ge ho (by omega)), k1, (HW4.out.trans q1).row k2 (own_ge ho (by omega))⟩
          simp only [putX]
          refine tl_val (v := .pointer (some ⟨w.heap.size + 1, 2, none⟩)) rfl ((Wr2.stable _ _ _).and ((Stable.ring _ _ _).and ((Stable.own _ _ _ _ _ _).and (Wr.stable _ _)))) (fun w h => h.1) (fun w h => by go_simp) ?_
          simp only [putX]
          refine tl_last rfl rfl (fun w5 ⟨k1, k2, k3, k4⟩ => ?_)
          have hb5 := hb4.wr2 k1 hg1 hnk
          have hc5 := hb5.cell
          have hf5 := hb5.frozen
          have hl5 := hb5.lt
          refine ⟨_, (by go_simp; rfl), ?_⟩
          have hne0 : w.heap.size ≠ rowOr vs g := rowOr_ne Ho4.out HBr4.out (by decide) hg0
          have R1 : Hid (Wr w g (w5.setCell ⟨w.heap.size + 1, 2, none⟩ (.slice (some ⟨bk, 0, none⟩) (ls.length + 1) ck))) := k4.put (by dsimp only; omega) _
          have R2 : IsRing wb (w5.setCell ⟨w.heap.size + 1, 2, none⟩ (.slice (some ⟨bk, 0, none⟩) (ls.length + 1) ck)) g (B + 36 + 3 * (3 - m) + 1 + 2) := k2.put (p := (⟨w.heap.size + 1, 2, none⟩ : Addr)) (And.intro (by dsimp only; omega) hg1) _
          have R3 : Hid (Blk (w5.setCell ⟨w.heap.size + 1, 2, none⟩ (.slice (some ⟨bk, 0, none⟩) (ls.length + 1) ck)) (w.heap.size + 1) 53 #[.slice (some ⟨bv, 0, none⟩) l.length cv, .int .i64 v2, .slice (some ⟨bk, 0, none⟩) (ls.length + 1) ck, .slice none 0 0]) := hb5.set_ 2 _
          have R4 : Hid (Blk (w5.setCell ⟨w.heap.size + 1, 2, none⟩ (.slice (some ⟨bk, 0, none⟩) (ls.length + 1) ck)) w.heap.size 53 zsky) := (HBr4.out.wr2 k1 hg0 hne0).far (by dsimp only; omega) _
          have R5 : Hid (OwnBodies (w.heap.size + 1 + 1) (w5.setCell ⟨w.heap.size + 1, 2, none⟩ (.slice (some ⟨bk, 0, none⟩) (ls.length + 1) ck)) (.slice (some ⟨bv, 0, none⟩) l.length cv) l bs) := OwnBodies.set (HO4.out.wr2 hr4 Ho4.out (by decide) (by decide) k1) (by dsimp only; omega) _
          have R6 : Hid ((w5.setCell ⟨w.heap.size + 1, 2, none⟩ (.slice (some ⟨bk, 0, none⟩) (ls.length + 1) ck)).ownsRow (w.heap.size + 1 + 1) 146 3 (.slice (some ⟨bk, 0, none⟩) (ls.length + 1) ck) (ls ++ [(⟨id + 1 + v4, ⟨x, y⟩⟩ : Stn)]).length ((ls ++ [(⟨id + 1 + v4, ⟨x, y⟩⟩ : Stn)]).flatMap stnC)) := by
            have := own_set k3 (p := ⟨w.heap.size + 1, 2, none⟩) (by intro e; have := (k3.lt _ e).1; dsimp only at this; omega) (.slice (some ⟨bk, 0, none⟩) (ls.length + 1) ck)
            rw [List.length_append, List.flatMap_append]
            exact this
          go_wp2_with fail
          go_roundw
          case rel =>
            refine ⟨_, m - 1, _, ls ++ [⟨id + 1 + v4, ⟨x, y⟩⟩], rfl, by go_num, by omega, by simp; omega, by simp; omega, by simp; omega, ?_, R3, R4, R1, R5, R6, R2.mono (by omega)⟩
            have hG := HG2.out
            refine Lib.hid ⟨?_, ?_⟩
            · refine List.pairwise_append.2 ⟨hG.1, by simp, fun p hp q hq => ?_⟩
              simp at hq; subst hq
              have := (hG.2 p hp).1.2
              dsimp only; omega
            · intro p hp
              rcases List.mem_append.1 hp with hp | hp
              · have := hG.2 p hp
                exact ⟨⟨this.1.1, by omega⟩, this.2⟩
              · simp at hp; subst hp; exact ⟨⟨by dsimp only; omega, by dsimp only; omega⟩, hx, hy⟩
          case measure => simp [intOf]; omega
        · have hm0 : m = 0 := by omega
          subst hm0
          obtain ⟨bt, ct, rfl, _, _⟩ := own_some HOs.out (by
            rintro rfl
            rcases HOs.out.2 with ⟨_, h0⟩ | ⟨_, _, _, h0, _⟩
            · omega
            · cases h0)
          have hls3 : ls.length ≤ 3 := by omega
          have hls1 : 1 ≤ ls.length := by omega
          go_wp2_with fail
          refine (Next_c wb g _ _ _ hrr (by omega) (by omega) (by omega)).mono ?_; rintro e w4 ⟨v4, rfl, va4, vb4, hw4, hr4⟩; obtain ⟨hc4, hf4, hz4⟩ := Wr.cells hw4; (try simp only [szA] at hz4); have hg4 := hr4.lt
          have P1 : Hid (Blk w4 (w.heap.size + 1) 53 #[.slice (some ⟨bv, 0, none⟩) l.length cv, .int .i64 v2, .slice (some ⟨bt, 0, none⟩) ls.length ct, .slice none 0 0]) := hbs.wr hw4 hg1
          have P2 : Hid (Blk w4 w.heap.size 53 zsky) := hbr.wr hw4 hg0
          have P4 : Hid (Wr w g w4) := HW.out.trans hw4
          have P5 : Hid (OwnBodies (w.heap.size + 1 + 1) w4 (.slice (some ⟨bv, 0, none⟩) l.length cv) l bs) := HO.out.wr hrr hw4
          have P6 : Hid (w4.ownsRow (w.heap.size + 1 + 1) 146 3 (.slice (some ⟨bt, 0, none⟩) ls.length ct) ls.length (ls.flatMap stnC)) := own_wr HOs.out hrr (by decide) hw4
          clear HBs HBr HW HO HOs hc4 hf4 hw4 hbs hbr hcS hfS hlS
          go_wp2_with fail
          go_loopw [9, 10] (fun j i wr => ∃ (ver : Int) (m : Nat) (vc : Value) (lc : List Cat), j = .int .i64 ver ∧ i = .int .i64 m ∧ 0 ≤ ver ∧ ver ≤ 3 * lc.length ∧ lc.length + m ≤ 3 ∧ 1 ≤ lc.length + m ∧ Hid (goodCats lc ver) ∧
            Hid (Blk wr (w.heap.size + 1) 53 #[.slice (some ⟨bv, 0, none⟩) l.length cv, .int .i64 v2, .slice (some ⟨bt, 0, none⟩) ls.length ct, vc]) ∧ Hid (Blk wr w.heap.size 53 zsky) ∧ Hid (Wr w g wr) ∧
            Hid (OwnBodies (w.heap.size + 1 + 1) wr (.slice (some ⟨bv, 0, none⟩) l.length cv) l bs) ∧ Hid (wr.ownsRow (w.heap.size + 1 + 1) 146 3 (.slice (some ⟨bt, 0, none⟩) ls.length ct) ls.length (ls.flatMap stnC)) ∧
            Hid (wr.ownsRow (w.heap.size + 1 + 1) 148 3 vc lc.length (lc.flatMap catC)) ∧ IsRing wb wr g (B + 46 + 4 * (3 - m))) (fun _ i _ => (intOf i).toNat)
          case atStart =>
            refine ⟨0, (1 + v4).toNat, .slice none 0 0, [], rfl, by rw [Int.toNat_of_nonneg (by omega)], by omega, by simp, by simp; omega, by simp; omega, Lib.hid ⟨List.Pairwise.nil, by intro p hp; cases hp⟩, P1, P2, P4, P5, P6, World.ownsRow_nil _ _ _ _, hr4.mono (by omega)⟩
          case round =>
            obtain ⟨ver, m, vc, lc, rfl, rfl, hvr0, hvr1, hm3, hm1, HG3, HBs, HBr, HW, HO, HOs, HOc, hrr⟩ := hrel
            obtain ⟨wq, rfl⟩ : ∃ wq : World, wq = wr := ⟨_, rfl⟩
            have hbs := HBs.out
            have hbr := HBr.out
            have hcS := hbs.cell
            have hfS := hbs.frozen
            have hlS := hbs.lt
            have hgr := hrr.lt
            by_cases hlt : 0 < m
            · go_wp2_with fail
              refine (Next_c wb g _ _ _ hrr (by omega) (by omega) (by omega)).mono ?_; rintro e w5 ⟨v5, rfl, va5, vb5, hw5, hr5⟩; obtain ⟨hc5, hf5, hz5⟩ := Wr.cells hw5; (try simp only [szA] at hz5); have hg5 := hr5.lt
              go_wp2_with fail
              refine (Next_c wb g _ _ _ hr5 (by omega) (by omega) (by omega)).mono ?_; rintro e w6 ⟨v6, rfl, va6, vb6, hw6, hr6⟩; obtain ⟨hc6, hf6, hz6⟩ := Wr.cells hw6; (try simp only [szA] at hz6); have hg6 := hr6.lt
              have hw56 : Wr wq g w6 := hw5.trans hw6
              have hb4 := hbs.wr hw56 hg1
              have hc4b := hb4.cell
              have hf4b := hb4.frozen
              have hl4b := hb4.lt
              have ho4 := own_wr HOc.out hrr (by decide) hw56
              have hnk : w.heap.size + 1 ≠ rowOr vc g := rowOr_ne ho4 hb4 (by decide) hg1
              have hW4 : Wr w g w6 := HW.out.trans hw56
              have Ho4 := Lib.hid ho4
              have HW4 := Lib.hid hW4
              have HO4 := Lib.hid (HO.out.wr hrr hw56)
              have HOs4 := Lib.hid (own_wr HOs.out hrr (by decide) hw56)
              have HBr4 := Lib.hid (hbr.wr hw56 hg0)
              clear ho4 hW4 hcS hfS hlS hw5 hw6 hw56 hc5 hf5 hc6 hf6 hr5
              go_wp2_with fail
              refine wp_region_chain0 true [([0, 1, 2, 3, 4, 5, 7], 6), ([], 8)] [] [9, 10, 11, 12, 13, 14, 15, 16] (Wr2 w6 g (rowOr vc g)) (fun w => Wr w6 g w ∧ IsRing wb w g (B + 46 + 4 * (3 - m) + 1 + 1)) ((Wr.stable w6 g).and (Stable.ring _ _ _)) (fun w h => h.1.two _) ⟨(Wr.refl _ _).drew, hr6.drew⟩ (by kernel_rfl) (by kernel_rfl) ?_
              repeat' (first | (refine bl_off (by rfl) ?_; simp only [putX]) | (apply bl_op; rfl; (intro w1 h1; obtain ⟨hc, hf, hz⟩ := Wr2.cells h1; go_simp; (try go_bits); (first | exact ⟨rfl, Ext.refl _⟩)); simp only [putX]) | (refine bl_split rfl rfl (fun hx => ?_) (fun hx => ?_) <;> simp only [hx]))
              refine bl_nil ?_
              simp only [pick1, List.drop_succ_cons, List.drop_zero]
              refine xe_call (f := 62) (args := #[.pointer (some ⟨g, 0, none⟩), .int .i64 3]) (fun v => ∃ x : Int, v = .int .i64 x ∧ 0 ≤ x ∧ x < 3) (fun w => Wr w6 g w ∧ IsRing wb w g (B + 46 + 4 * (3 - m) + 1 + 1 + 1)) rfl ((Wr.stable w6 g).and (Stable.ring _ _ _)) (fun w h => h.1.two _) (fun w h => by go_simp) (fun w h => ?_) ?_
              · refine (Next_c wb g (B + 46 + 4 * (3 - m) + 1 + 1) 3 w h.2 (by omega) (by omega) (by omega)).mono ?_
                rintro e w' ⟨x, rfl, p1, p2, k1, k2⟩
                exact ⟨_, rfl, ⟨x, rfl, p1, p2⟩, h.1.trans k1, k2⟩
              rintro v ⟨x, rfl, hx0, hx1⟩
              simp only [putX]
              refine bl_nil ?_
              simp only [pick1, List.drop_succ_cons, List.drop_zero]
              refine xe_call (f := 62) (args := #[.pointer (some ⟨g, 0, none⟩), .int .i64 5000]) (fun v => ∃ x : Int, v = .int .i64 x ∧ 0 ≤ x ∧ x < 5000) (fun w => Wr w6 g w ∧ IsRing wb w g (B + 46 + 4 * (3 - m) + 1 + 1 + 1 + 1)) rfl ((Wr.stable w6 g).and (Stable.ring _ _ _)) (fun w h => h.1.two _) (fun w h => by go_simp) (fun w h => ?_) ?_
              · refine (Next_c wb g (B + 46 + 4 * (3 - m) + 1 + 1 + 1) 5000 w h.2 (by omega) (by omega) (by omega)).mono ?_
                rintro e w' ⟨x, rfl, p1, p2, k1, k2⟩
                exact ⟨_, rfl, ⟨x, rfl, p1, p2⟩, h.1.trans k1, k2⟩
              rintro v ⟨y, rfl, hy0, hy1⟩
              have hxy0 : 0 ≤ x * y := Int.mul_nonneg hx0 hy0
              have hxy1 : x * y ≤ 9998 := by
                have h1 : x * y ≤ 2 * y := Int.mul_le_mul_of_nonneg_right (by omega) hy0
                omega
              generalize hxy : x * y = xy at hxy0 hxy1
              simp only [putX]
              refine bl_nil ?_
              refine tl_val (v := .int .i64 xy) rfl ((Wr.stable w6 g).and (Stable.ring _ _ _)) (fun w h => h.1.two _) (fun w h => by go_simp; exact IntWalk.i64_in _ (by omega)) ?_
              simp only [putX]
              refine tl_val (v := .int .i64 (v6 - 10000 + xy)) rfl ((Wr.stable w6 g).and (Stable.ring _ _ _)) (fun w h => h.1.two _) (fun w h => by go_simp; (try go_bits); try trivial) ?_
              simp only [putX]
              refine tl_val (v := .agg #[.int .i64 (v6 - 10000), .int .i64 (v6 - 10000 + xy)]) rfl ((Wr.stable w6 g).and (Stable.ring _ _ _)) (fun w h => h.1.two _) (fun w h => by go_simp) ?_
              simp only [putX]
              refine tl_val (v := .agg #[.int .i64 (ver + 1 + v5), .int .i64 (v6 - 10000), .int .i64 (v6 - 10000 + xy)]) rfl ((Wr.stable w6 g).and (Stable.ring _ _ _)) (fun w h => h.1.two _) (fun w h => by go_simp) ?_
              simp only [putX]
              refine tl_slice (e := 148) (zs := #[.int .i64 (ver + 1 + v5), .int .i64 (v6 - 10000), .int .i64 (v6 - 10000 + xy)]) rfl ((Wr.stable w6 g).and (Stable.ring _ _ _)) (fun w h => h.1.two _) (fun w => by go_simp) (fun b => ?_)
              simp only [putX]
              refine tl_append rfl (.tmp 91) (.tmp 103) 51 rfl (w.heap.size + 1 + 1) 148 ic _ 3 24 Tryz.underlying51 hic hk0 hk1 hk2 rfl (by decide) vc lc.length (lc.flatMap catC) rfl b #[.int .i64 (ver + 1 + v5), .int .i64 (v6 - 10000), .int .i64 (v6 - 10000 + xy)] rfl rfl (by intro u hu; simp at hu; rcases hu with rfl | rfl | rfl <;> rfl) (by unfold maxLen; omega) (by omega) (fun w' h => ⟨own_wr Ho4.out hr6 (by decide) h.1.1, h.2, by have := h.1.1.size; have := HW4.out.size; omega⟩)
                (fun v' w' => Wr2 w6 g (rowOr vc g) w' ∧ IsRing wb w' g (B + 46 + 4 * (3 - m) + 1 + 1 + 1 + 1) ∧ w'.ownsRow (w.heap.size + 1 + 1) 148 3 v' (lc.length + 1) (lc.flatMap catC ++ [.int .i64 (ver + 1 + v5), .int .i64 (v6 - 10000), .int .i64 (v6 - 10000 + xy)]) ∧ Wr w g w')
                (fun v' => (Wr2.stable _ _ _).and ((Stable.ring _ _ _).and ((Stable.own _ _ _ _ _ _).and (Wr.stable _ _)))) (fun v' w h => h.1) (fun w1 w' v' h k1 k2 _ => ?_) (fun bk ck => ?_)
              · obtain ⟨⟨q1, q2⟩, q3⟩ := h
                have ho := own_wr Ho4.out hr6 (by decide) q1
                exact ⟨(q1.two _).row k2, q2.row k2 (q2.ne ho (by decide)) (own_ge ho (by omega)), k1, (HW4.out.trans q1).row k2 (own_ge ho (by omega))⟩
              simp only [putX]
              refine tl_val (v := .pointer (some ⟨w.heap.size + 1, 3, none⟩)) rfl ((Wr2.stable _ _ _).and ((Stable.ring _ _ _).and ((Stable.own _ _ _ _ _ _).and (Wr.stable _ _)))) (fun w h => h.1) (fun w h => by go_simp) ?_
              simp only [putX]
              refine tl_last rfl rfl (fun w5 ⟨k1, k2, k3, k4⟩ => ?_)
              have hb5 := hb4.wr2 k1 hg1 hnk
              have hc5 := hb5.cell
              have hf5 := hb5.frozen
              have hl5 := hb5.lt
              refine ⟨_, (by go_simp; rfl), ?_⟩
              have hne0 : w.heap.size ≠ rowOr vc g := rowOr_ne Ho4.out HBr4.out (by decide) hg0
              have R1 : Hid (Wr w g (w5.setCell ⟨w.heap.size + 1, 3, none⟩ (.slice (some ⟨bk, 0, none⟩) (lc.length + 1) ck))) := k4.put (by dsimp only; omega) _
              have R2 : IsRing wb (w5.setCell ⟨w.heap.size + 1, 3, none⟩ (.slice (some ⟨bk, 0, none⟩) (lc.length + 1) ck)) g (B + 46 + 4 * (3 - m) + 1 + 1 + 1 + 1) := k2.put (p := (⟨w.heap.size + 1, 3, none⟩ : Addr)) (And.intro (by dsimp only; omega) hg1) _
              have R3 : Hid (Blk (w5.setCell ⟨w.heap.size + 1, 3, none⟩ (.slice (some ⟨bk, 0, none⟩) (lc.length + 1) ck)) (w.heap.size + 1) 53 #[.slice (some ⟨bv, 0, none⟩) l.length cv, .int .i64 v2, .slice (some ⟨bt, 0, none⟩) ls.length ct, .slice (some ⟨bk, 0, none⟩) (lc.length + 1) ck]) := hb5.set_ 3 _
              have R4 : Hid (Blk (w5.setCell ⟨w.heap.size + 1, 3, none⟩ (.slice (some ⟨bk, 0, none⟩) (lc.length + 1) ck)) w.heap.size 53 zsky) := (HBr4.out.wr2 k1 hg0 hne0).far (by dsimp only; omega) _
              have R5 : Hid (OwnBodies (w.heap.size + 1 + 1) (w5.setCell ⟨w.heap.size + 1, 3, none⟩ (.slice (some ⟨bk, 0, none⟩) (lc.length + 1) ck)) (.slice (some ⟨bv, 0, none⟩) l.length cv) l bs) := OwnBodies.set (HO4.out.wr2 hr6 Ho4.out (by decide) (by decide) k1) (by dsimp only; omega) _
              have R7 : Hid ((w5.setCell ⟨w.heap.size + 1, 3, none⟩ (.slice (some ⟨bk, 0, none⟩) (lc.length + 1) ck)).ownsRow (w.heap.size + 1 + 1) 146 3 (.slice (some ⟨bt, 0, none⟩) ls.length ct) ls.length (ls.flatMap stnC)) := by
                have := own_wr2 HOs4.out hr6 (by decide) Ho4.out (by decide) k1
                exact own_set this (by intro e; have := (this.lt _ e).1; dsimp only at this; omega) _
              have R6 : Hid ((w5.setCell ⟨w.heap.size + 1, 3, none⟩ (.slice (some ⟨bk, 0, none⟩) (lc.length + 1) ck)).ownsRow (w.heap.size + 1 + 1) 148 3 (.slice (some ⟨bk, 0, none⟩) (lc.length + 1) ck) (lc ++ [(⟨ver + 1 + v5, v6 - 10000, v6 - 10000 + xy⟩ : Cat)]).length ((lc ++ [(⟨ver + 1 + v5, v6 - 10000, v6 - 10000 + xy⟩ : Cat)]).flatMap catC)) := by
                have := own_set k3 (p := ⟨w.heap.size + 1, 3, none⟩) (by intro e; have := (k3.lt _ e).1; dsimp only at this; omega) (.slice (some ⟨bk, 0, none⟩) (lc.length + 1) ck)
                rw [List.length_append, List.flatMap_append]
                exact this
              go_wp2_with fail
              go_roundw
              case rel =>
                refine ⟨_, m - 1, _, lc ++ [⟨ver + 1 + v5, v6 - 10000, v6 - 10000 + xy⟩], rfl, by go_num, by omega, by simp; omega, by simp; omega, by simp; omega, ?_, R3, R4, R1, R5, R7, R6, R2.mono (by omega)⟩
                have hG := HG3.out
                refine Lib.hid ⟨?_, ?_⟩
                · refine List.pairwise_append.2 ⟨hG.1, by simp, fun p hp q hq => ?_⟩
                  simp at hq; subst hq
                  have := (hG.2 p hp).1.2
                  dsimp only; omega
                · intro p hp
                  rcases List.mem_append.1 hp with hp | hp
                  · have := hG.2 p hp
                    exact ⟨⟨this.1.1, by omega⟩, this.2⟩
                  · simp at hp; subst hp; exact ⟨⟨by dsimp only; omega, by dsimp only; omega⟩, by dsimp only; omega, by dsimp only; omega, by dsimp only; omega, by dsimp only; omega⟩
              case measure => simp [intOf]; omega
            · have hm0 : m = 0 := by omega
              subst hm0
              obtain ⟨bc, cc, rfl, _, _⟩ := own_some HOc.out (by
                rintro rfl
                rcases HOc.out.2 with ⟨_, h0⟩ | ⟨_, _, _, h0, _⟩
                · omega
                · cases h0)
              have hcR := hbr.cell
              have hfR := hbr.frozen
              have hlR := hbr.lt
              go_wp2_with fail
              (try simp only [Exit.inBlock, Exit.then]); apply bodyPost_ret; (focus (simp only [results, Tryz.results81]; go_simp; try rfl)); rfl
              have hO : OwnSky (w.heap.size + 1 + 1) wq (.slice (some ⟨bv, 0, none⟩) l.length cv) (.slice (some ⟨bt, 0, none⟩) ls.length ct) (.slice (some ⟨bc, 0, none⟩) lc.length cc) ⟨⟨l, v2⟩, ls, lc⟩ bs := ⟨HO.out, HOs.out, HOc.out⟩
              have hset : ∀ (W : World) (i : Nat) (u : Value), OwnSky (w.heap.size + 1 + 1) W (.slice (some ⟨bv, 0, none⟩) l.length cv) (.slice (some ⟨bt, 0, none⟩) ls.length ct) (.slice (some ⟨bc, 0, none⟩) lc.length cc) ⟨⟨l, v2⟩, ls, lc⟩ bs →
                  OwnSky (w.heap.size + 1 + 1) (W.setCell ⟨w.heap.size, i, none⟩ u) (.slice (some ⟨bv, 0, none⟩) l.length cv) (.slice (some ⟨bt, 0, none⟩) ls.length ct) (.slice (some ⟨bc, 0, none⟩) lc.length cc) ⟨⟨l, v2⟩, ls, lc⟩ bs := fun W i u h =>
                ⟨OwnBodies.set h.bodies (by dsimp only; omega) _, own_set h.stations (by intro e; have := (h.stations.lt _ e).1; dsimp only at this; omega) _, own_set h.catalogs (by intro e; have := (h.catalogs.lt _ e).1; dsimp only at this; omega) _⟩
              have hOwn := (hset _ 3 (.slice (some ⟨bc, 0, none⟩) lc.length cc) (hset _ 2 (.slice (some ⟨bt, 0, none⟩) ls.length ct) (hset _ 1 (.int .i64 v2) (hset _ 0 (.slice (some ⟨bv, 0, none⟩) l.length cv) hO))))
              obtain ⟨A1, c1, A2, c2, A3, c3, e1, e2, e3, hsky⟩ := hOwn.sky
              injection e1 with e1 _ e1'; injection e2 with e2 _ e2'; injection e3 with e3 _ e3'
              subst e1 e2 e3
              refine ⟨_, _, _, _, _, _, _, _, _, _, _, rfl, ⟨_, hOwn.mono (by omega)⟩, hsky, ⟨⟨hlen1, hlen3⟩, HG.out, ⟨va2, vb2⟩, ⟨hls1, hls3⟩, ⟨_, HG2.out, by omega⟩, ⟨by dsimp only; omega, by dsimp only; omega⟩, ⟨_, HG3.out, by omega⟩⟩, ?_, ?_⟩
              · have := HW.out
                (repeat' (first | exact Wr.refl _ _ | assumption | apply Wr.alloc | apply Wr.drew | refine Wr.put ?_ (by dsimp only; omega) _ | refine Wr.trans ?_ (by assumption)))
              · have := hrr.mono (B' := B + 60) (by omega)
                (repeat' (first | assumption | apply IsRing.alloc | apply IsRing.drew | refine IsRing.put ?_ (by dsimp only; omega) _))
end Go.Proofs.YtfniicgoeljmdaaGreat
