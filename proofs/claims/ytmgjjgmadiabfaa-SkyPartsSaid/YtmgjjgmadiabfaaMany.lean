/- Guesses and tracklets made of numbers. No condition. -/
import Derived.Test.YtmgjjgmadiabfaaSightOf
import Derived.Test.YtmgjjgmadiabfaaBelieves
namespace Go.Proofs.Ytmgjjgmadiabfaa
open Go.RowKit

set_option maxHeartbeats 1000000 in
theorem GuessOf_c (wb : World) (g : Nat) (B : Int) (w : World) (hr : IsRing wb w g B) (hB : B ≤ 800000000) :
    Calls Try.prog 103 #[.pointer (some ⟨g, 0, none⟩)] w fun e w' => ∃ gx gy gu gv, e = .returned (.agg #[.int .i64 gx, .int .i64 gy, .int .i64 gu, .int .i64 gv]) ∧ ((-3000 ≤ gx ∧ gx ≤ 3000) ∧ (-3000 ≤ gy ∧ gy ≤ 3000) ∧ (-60 ≤ gu ∧ gu ≤ 60) ∧ -60 ≤ gv ∧ gv ≤ 60) ∧ Wr w g w' ∧ IsRing wb w' g (B + 4) := by
  have hg := hr.lt
  have hge := hr.ge
  have hsz := hr.ext.size
  go_enter Try.func103, Try.ntmps103
  go_wp2_with fail
  refine (PointOf_c wb g _ _ _ (by (repeat' (first | assumption | apply IsRing.alloc | apply IsRing.drew | refine IsRing.put ?_ (by dsimp only; omega) _))) (by omega) (by omega) (by omega)).mono ?_; rintro e w1 ⟨px1, py1, rfl, pa1, pb1, pc1, pd1, hw1, hr1⟩; obtain ⟨hc1, hf1, hz1⟩ := Wr.cells hw1; (repeat (first | rw [World.size_alloc] at hz1 | rw [World.size_drew] at hz1 | rw [World.size_setCell] at hz1)); have hg1 := hr1.lt
  have hl1 : w.heap.size < w1.heap.size := by omega
  go_wp2_with fail
  refine (PointOf_c wb g _ _ _ hr1 (by omega) (by omega) (by omega)).mono ?_; rintro e w2 ⟨px2, py2, rfl, pa2, pb2, pc2, pd2, hw2, hr2⟩; obtain ⟨hc2, hf2, hz2⟩ := Wr.cells hw2; (repeat (first | rw [World.size_alloc] at hz2 | rw [World.size_drew] at hz2 | rw [World.size_setCell] at hz2)); have hg2 := hr2.lt
  have hl2 : w.heap.size < w2.heap.size := by omega
  have hl3 : w.heap.size < w2.heap.size + 1 + 1 := by omega
  have hne : w.heap.size ≠ g := by omega
  (try dsimp only); repeat' (first | go_values | go_skip | go_guarded | go_step | go_upon | go_in | go_at_K)
  (try simp only [Exit.inBlock, Exit.then]); apply bodyPost_ret; (focus (simp only [results, Try.results103]; go_simp; try rfl)); rfl
  refine ⟨_, _, _, _, rfl, ⟨⟨pa1, pb1⟩, ⟨pc1, pd1⟩, ⟨pa2, pb2⟩, pc2, pd2⟩, by (repeat' (first | exact Wr.refl _ _ | assumption | apply Wr.alloc | apply Wr.drew | refine Wr.put ?_ (by dsimp only; omega) _ | refine Wr.trans ?_ (by assumption))), ?_⟩
  have := hr2.mono (B' := B + 4) (by omega)
  (repeat' (first | assumption | apply IsRing.alloc | apply IsRing.drew | refine IsRing.put ?_ (by dsimp only; omega) _))

def GoodTrk (s : Sky) (l : List Sight) : Prop := l.Pairwise (fun a b => a.tick ≤ b.tick) ∧ ∀ x ∈ l, MadeSight s x ∧ x.tick ≤ 9
set_option maxRecDepth 4000 in
set_option maxHeartbeats 4000000 in
theorem TrackletOf_c (wb : World) (g : Nat) (B : Int) (A1 : Option Addr) (n1 c1 : Nat) (home : Int) (A2 : Option Addr) (n2 c2 : Nat) (A3 : Option Addr) (n3 c3 : Nat) (s : Sky) (gx gy gu gv : Int) (most : Int) (w : World) (hr : IsRing wb w g B) (hB : B ≤ 700000000) (hs : IsSky w A1 n1 home A2 n2 A3 n3 s) (hm : MadeSky s) (hgx : -3000 ≤ gx ∧ gx ≤ 3000) (hgy : -3000 ≤ gy ∧ gy ≤ 3000) (hgu : -60 ≤ gu ∧ gu ≤ 60) (hgv : -60 ≤ gv ∧ gv ≤ 60) (hmost : 1 ≤ most ∧ most ≤ 4) :
    Calls Try.prog 104 #[.pointer (some ⟨g, 0, none⟩), .agg #[.slice A1 n1 c1, .int .i64 home, .slice A2 n2 c2, .slice A3 n3 c3], .agg #[.int .i64 gx, .int .i64 gy, .int .i64 gu, .int .i64 gv], .int .i64 most] w fun e w' =>
      ∃ b c l, e = .returned (.slice (some ⟨b, 0, none⟩) l.length c) ∧ w'.ownsRow w.heap.size 32 9 (.slice (some ⟨b, 0, none⟩) l.length c) l.length (l.flatMap sightC) ∧ (1 ≤ l.length ∧ l.length ≤ 4) ∧ GoodTrk s l ∧ Wr w g w' ∧ IsRing wb w' g (B + 50) := by
  have hg := hr.lt
  have hsz := hr.ext.size
  have hge := hr.ge
  obtain ⟨is_, his, hs0, hs1, hs2⟩ := info_parts info_sight
  obtain ⟨hgx1, hgx2⟩ := hgx
  obtain ⟨hgy1, hgy2⟩ := hgy
  obtain ⟨hmost1, hmost2⟩ := hmost
  have hne0 : w.heap.size ≠ g := by omega
  have hne1 : w.heap.size + 1 ≠ g := by omega
  go_enter Try.func104, Try.ntmps104
  go_wp2_with fail
  refine (Next_c wb g _ _ _ (by (repeat' (first | assumption | apply IsRing.alloc | apply IsRing.drew | refine IsRing.put ?_ (by dsimp only; omega) _))) (by omega) (by omega) (by omega)).mono ?_; rintro e w1 ⟨v1, rfl, va1, vb1, hw1, hr1⟩; obtain ⟨hc1, hf1, hz1⟩ := Wr.cells hw1; (repeat (first | rw [World.size_alloc] at hz1 | rw [World.size_drew] at hz1 | rw [World.size_setCell] at hz1)); have hg1 := hr1.lt
  have hE1 : Ext w ((w.alloc (.cells #[.slice A1 n1 c1, .int .i64 home, .slice A2 n2 c2, .slice A3 n3 c3] 28)).alloc (.cells #[.int .i64 gx, .int .i64 gy, .int .i64 gu, .int .i64 gv] 53)) := by (repeat' (first | exact Ext.refl _ | assumption | apply Ext.alloc | apply Ext.drew | refine Ext.set ?_ (by dsimp only; omega) _ | refine Ext.trans ?_ (by assumption)))
  have hA1 : Hid (Blk w1 w.heap.size 28 #[.slice A1 n1 c1, .int .i64 home, .slice A2 n2 c2, .slice A3 n3 c3]) := Lib.hid (((Blk.newAt rfl).alloc _).wr hw1 hne0)
  have hB1 : Hid (Blk w1 (w.heap.size + 1) 53 #[.int .i64 gx, .int .i64 gy, .int .i64 gu, .int .i64 gv]) := Lib.hid ((Blk.newAt (by simp)).wr hw1 hne1)
  have hW1 : Hid (Wr w g w1) := Lib.hid ((Wr.of g hE1).trans hw1)
  clear hE1 hc1 hf1 hw1
  go_wp2_with fail
  go_loopw [9, 10, 11] (fun v ti ni wr => ∃ (m : Nat) (t : Int) (l : List Sight), ti = .int .i64 t ∧ ni = .int .i64 m ∧ l.length + m ≤ 4 ∧ 1 ≤ l.length + m ∧ 0 ≤ t ∧ t ≤ 3 * l.length ∧ Hid (l.Pairwise (fun a b => a.tick ≤ b.tick) ∧ ∀ x ∈ l, MadeSight s x ∧ x.tick ≤ t ∧ x.tick ≤ 9) ∧
    Hid (Blk wr w.heap.size 28 #[.slice A1 n1 c1, .int .i64 home, .slice A2 n2 c2, .slice A3 n3 c3]) ∧ Hid (Blk wr (w.heap.size + 1) 53 #[.int .i64 gx, .int .i64 gy, .int .i64 gu, .int .i64 gv]) ∧
    Hid (wr.ownsRow (w.heap.size + 1 + 1) 32 9 v l.length (l.flatMap sightC)) ∧ Hid (Wr w g wr) ∧ IsRing wb wr g (B + 1 + 11 * l.length)) (fun _ _ ni _ => (intOf ni).toNat)
  case atStart => exact ⟨(1 + v1).toNat, 0, [], rfl, by rw [Int.toNat_of_nonneg (by omega)], by simp; omega, by simp; omega, by omega, by simp, Lib.hid ⟨List.Pairwise.nil, by intro x hx; cases hx⟩, hA1, hB1, World.ownsRow_nil _ _ _ _, hW1, hr1.mono (by simp)⟩
  case round =>
    obtain ⟨m, t, l, rfl, rfl, hm4, hm1, ht0, ht1, HG, HA, HB, HO, HW, hrr⟩ := hrel
    obtain ⟨wq, rfl⟩ : ∃ wq : World, wq = wr := ⟨_, rfl⟩
    have hcA := HA.out.cell
    have hcB := HB.out.cell
    have hlA := HA.out.lt
    have hlB := HB.out.lt
    have hgr := hrr.lt
    by_cases hlt : 0 < m
    · have hpu := mul_bd (a := gu) (b := t) (A := 60) (B := 9) hgu (by omega)
      have hpv := mul_bd (a := gv) (b := t) (A := 60) (B := 9) hgv (by omega)
      obtain ⟨hpu1, hpu2⟩ := hpu
      obtain ⟨hpv1, hpv2⟩ := hpv
      go_wp2_with fail
      refine (SightOf_c wb g _ A1 n1 c1 home A2 n2 c2 A3 n3 c3 s t (gx + gu * t) (gy + gv * t) _ hrr (by omega) (hs.wr hr HW.out) hm (by omega) (by omega) (by omega)).mono ?_
      rintro e w5 ⟨kind, st, cat, dx, dy, er, lo, hi, rfl, hx, hw5, hr5⟩
      have HO5 := Lib.hid (own_wr HO.out hrr (by decide) hw5)
      have HA5 := Lib.hid (HA.out.wr hw5 hne0)
      have HB5 := Lib.hid (HB.out.wr hw5 hne1)
      have HW5 := Lib.hid (HW.out.trans hw5)
      have hz5 := HW5.out.size
      have hz6 := HA5.out.lt
      have hz7 := HB5.out.lt
      clear hcA hcB hlA hlB HA HB HO HW hw5
      go_wp2_with (at_builtin; go_loud (refine wpList_append_sl rfl (.tmp 20) (.tmp 40) 51 rfl (w.heap.size + 1 + 1) 32 is_ _ 9 72 Try.underlying51 his hs0 hs1 hs2 rfl (by decide) _ l.length (l.flatMap sightC) rfl (own_ext_keep HO5.out (Ext.alloc0 _ _)) (some ⟨w5.heap.size, 0, none⟩) 1 1 [.int .i64 kind, .int .i64 st, .int .i64 cat, .int .i64 t, .int .i64 dx, .int .i64 dy, .int .i64 er, .int .i64 lo, .int .i64 hi] rfl rfl (.inr ⟨_, rfl, new_cells rfl⟩) (by intro u hu; simp at hu; rcases hu with rfl | rfl | rfl | rfl | rfl | rfl | rfl | rfl | rfl <;> rfl) (by unfold maxLen; omega) (by omega) (by simp; omega) ?_))
      intro v' w6 ho6 hg6 _
      have e5 : Ext w5 (w5.alloc (.cells #[.int .i64 kind, .int .i64 st, .int .i64 cat, .int .i64 t, .int .i64 dx, .int .i64 dy, .int .i64 er, .int .i64 lo, .int .i64 hi] 32)) := Ext.alloc0 _ _
      have hO5 := own_ext_keep HO5.out e5
      have hr6 : IsRing wb w6 g (B + 1 + 11 * l.length + 10) := (hr5.keep e5).row hg6 ((hr5.keep e5).ne hO5 (by decide)) (own_ge hO5 (by omega))
      have HA6 := Lib.hid ((HA5.out.ext e5).grown hg6 (own_blk hO5 (HA5.out.ext e5) (by decide)))
      have HB6 := Lib.hid ((HB5.out.ext e5).grown hg6 (own_blk hO5 (HB5.out.ext e5) (by decide)))
      have HW6 := Lib.hid ((HW5.out.trans (Wr.of g e5)).row hg6 (own_ge hO5 (by omega)))
      have HO6 : Hid (w6.ownsRow (w.heap.size + 1 + 1) 32 9 v' (l ++ [(⟨kind, st, cat, t, dx, dy, er, lo, hi⟩ : Sight)]).length ((l ++ [(⟨kind, st, cat, t, dx, dy, er, lo, hi⟩ : Sight)]).flatMap sightC)) := by
        rw [List.length_append, List.flatMap_append]
        exact ho6
      clear HO5 HA5 HB5 HW5 hg6 ho6 hO5 e5 hr5 hz5 hz6 hz7
      go_wp2_with fail
      refine (Next_c wb g _ _ _ hr6 (by omega) (by omega) (by omega)).mono ?_; rintro e w7 ⟨v7, rfl, va7, vb7, hw7, hr7⟩; obtain ⟨hc7, hf7, hz7⟩ := Wr.cells hw7; (repeat (first | rw [World.size_alloc] at hz7 | rw [World.size_drew] at hz7 | rw [World.size_setCell] at hz7)); have hg7 := hr7.lt
      have HA7 := Lib.hid (HA6.out.wr hw7 hne0)
      have HB7 := Lib.hid (HB6.out.wr hw7 hne1)
      have HO7 := Lib.hid (own_wr HO6.out hr6 (by decide) hw7)
      have HW7 := Lib.hid (HW6.out.trans hw7)
      clear HA6 HB6 HO6 HW6 hr6 hc7 hf7 hw7
      go_wp2_with fail
      go_roundw
      case rel =>
        refine ⟨m - 1, t + v7, l ++ [⟨kind, st, cat, t, dx, dy, er, lo, hi⟩], rfl, by go_num, by simp; omega, by simp; omega, by omega, by simp; omega, ?_, HA7, HB7, HO7, HW7, hr7.mono (by simp; omega)⟩
        have hG := HG.out
        refine Lib.hid ⟨List.pairwise_append.2 ⟨hG.1, by simp, fun p hp q hq => ?_⟩, fun p hp => ?_⟩
        · simp at hq
          subst hq
          exact (hG.2 p hp).2.1
        · rcases List.mem_append.1 hp with hp | hp
          · have := hG.2 p hp
            exact ⟨this.1, by omega, this.2.2⟩
          · simp at hp
            subst hp
            exact ⟨hx, by dsimp only; omega, by dsimp only; omega⟩
      case measure => simp [intOf]; omega
    · have hm0 : m = 0 := by omega
      subst hm0
      obtain ⟨b, c, rfl, _, _⟩ := own_some HO.out (by
        rintro rfl
        rcases HO.out.2 with ⟨_, h0⟩ | ⟨_, _, _, h0, _⟩
        · omega
        · cases h0)
      go_wp2_with fail
      go_ret
      have hG := HG.out
      exact ⟨_, _, l, rfl, own_mono HO.out (by omega), by omega, ⟨hG.1, fun x hx => ⟨(hG.2 x hx).1, (hG.2 x hx).2.2⟩⟩, HW.out, hrr.mono (by omega)⟩
end Go.Proofs.Ytmgjjgmadiabfaa
