/- A possible successor of a state: the program. No condition. Whether a state may follow another: the program. No condition. The chapter's examples that every law of the orbits asks. Draft. -/
import Derived.Test.YtfniicgoeljmdaaStepM
import Derived.Test.YtfniicgoeljmdaaBoxSet
namespace Go.Proofs.Ytfniicgoeljmdaa
open Go.RowKit

def followsB (l : List Body) (home : Int) (d : Drf) (tick : Int) (s n : St) : Bool :=
  decide ((overM l home d tick ⟨⟨s.x, s.x⟩, ⟨s.y, s.y⟩⟩).e = 0) && within (n.u - s.u) (overM l home d tick ⟨⟨s.x, s.x⟩, ⟨s.y, s.y⟩⟩).a.x.lo (overM l home d tick ⟨⟨s.x, s.x⟩, ⟨s.y, s.y⟩⟩).a.x.hi && within (n.v - s.v) (overM l home d tick ⟨⟨s.x, s.x⟩, ⟨s.y, s.y⟩⟩).a.y.lo (overM l home d tick ⟨⟨s.x, s.x⟩, ⟨s.y, s.y⟩⟩).a.y.hi && decide (n.x = s.x + n.u) && decide (n.y = s.y + n.v)

set_option maxRecDepth 20000 in
set_option maxHeartbeats 2000000 in
theorem oFollows_c (A : Option Addr) (n c : Nat) (home : Int) (l : List Body) (d : Drf) (tick : Int) (x y u v x' y' u' v' : Int) (w : World) (hl : Bodies w A n l) (h1 : stErr ⟨x, y, u, v⟩ = 0) (h2 : stErr ⟨x', y', u', v'⟩ = 0) :
    Calls Try.prog 21 #[.agg #[.slice A n c, .int .i64 home], .agg #[.int .i64 d.light.lo, .int .i64 d.light.hi, .int .i64 d.heat.lo, .int .i64 d.heat.hi, .int .i64 d.gas], .int .i64 tick, .agg #[.int .i64 x, .int .i64 y, .int .i64 u, .int .i64 v], .agg #[.int .i64 x', .int .i64 y', .int .i64 u', .int .i64 v']] w fun e w' =>
      e = .returned (.bool (followsB l home d tick ⟨x, y, u, v⟩ ⟨x', y', u', v'⟩)) ∧ Ext w w' := by
  have HP := Lib.hid fun W (hW : Ext w W) => fPullAt_c A n c home l d tick x y W (Bodies.ext hW hl)
  obtain ⟨⟨p1, p2⟩, ⟨p3, p4⟩, ⟨p5, p6⟩, p7, p8⟩ := stErr_ok.1 h1
  obtain ⟨⟨q1, q2⟩, ⟨q3, q4⟩, ⟨q5, q6⟩, q7, q8⟩ := stErr_ok.1 h2
  dsimp only at p1 p2 p3 p4 p5 p6 p7 p8 q1 q2 q3 q4 q5 q6 q7 q8
  unfold followsB
  dsimp only
  generalize overM _ _ _ _ _ = R at *
  obtain ⟨⟨⟨al, ah⟩, bl, bh⟩, E⟩ := R
  obtain ⟨⟨ll, lh⟩, ⟨hl', hh⟩, g⟩ := d
  dsimp only at HP ⊢
  have HW1 := Lib.hid fun W => oWithin_c (u' - u) al ah W
  have HW2 := Lib.hid fun W => oWithin_c (v' - v) bl bh W
  generalize within (u' - u) al ah = B1 at *
  generalize within (v' - v) bl bh = B2 at *
  have b1 : -9223372036854775808 ≤ u' - u ∧ u' - u < 9223372036854775808 := by omega
  have b2 : -9223372036854775808 ≤ v' - v ∧ v' - v < 9223372036854775808 := by omega
  have b3 : -9223372036854775808 ≤ x + u' ∧ x + u' < 9223372036854775808 := by omega
  have b4 : -9223372036854775808 ≤ y + v' ∧ y + v' < 9223372036854775808 := by omega
  have hR : ∀ e w', (∃ (k : Bool), k = (decide (E = 0) && B1 && B2 && decide (x' = x + u') && decide (y' = y + v')) ∧ e = Ending.returned (.bool k) ∧ Ext w w') → (e = .returned (.bool (decide (E = 0) && B1 && B2 && decide (x' = x + u') && decide (y' = y + v'))) ∧ Ext w w') := by
    rintro e w' ⟨k, rfl, rfl, h⟩; exact ⟨rfl, h⟩
  refine Calls.mono ?_ hR
  clear hR h1 h2 hl p1 p2 p3 p4 p5 p6 p7 p8 q1 q2 q3 q4 q5 q6 q7 q8
  go_enter Try.func21, Try.ntmps21
  go_wp2_with fail
  refine (HP.out _ ext_by).mono ?_
  rintro e w1 ⟨rfl, h1'⟩
  have F7 : Blk w1 (w.heap.size + 1 + 1) 38 #[.int .i64 x, .int .i64 y, .int .i64 u, .int .i64 v] := ((Blk.newAt (by simp)).alloc _).ext h1'
  have F8 : Blk w1 (w.heap.size + 1 + 1 + 1) 38 #[.int .i64 x', .int .i64 y', .int .i64 u', .int .i64 v'] := (Blk.newAt (by simp)).ext h1'
  have FE : Ext w w1 := ext_by
  clear h1'
  have c_F7 := F7.cell; have f_F7 := F7.frozen; have l_F7 := F7.lt; have c_F8 := F8.cell; have f_F8 := F8.frozen; have l_F8 := F8.lt
  by_cases hE : E = 0
  · subst hE
    go_wp2_with fail
    refine (HW1.out _).mono ?_
    rintro e w2 ⟨rfl, h2⟩
    have G7 := (F7.alloc _).ext h2
    have G8 := (F8.alloc _).ext h2
    have GA : Blk w2 w1.heap.size 84 #[.int .i64 al, .int .i64 ah, .int .i64 bl, .int .i64 bh] := (Blk.newAt (by simp)).ext h2
    have GE := (FE.alloc _).trans h2
    clear c_F7 f_F7 l_F7 c_F8 f_F8 l_F8
    clear h2 F7 F8 FE
    have c_G7 := G7.cell; have f_G7 := G7.frozen; have l_G7 := G7.lt; have c_G8 := G8.cell; have f_G8 := G8.frozen; have l_G8 := G8.lt; have c_GA := GA.cell; have f_GA := GA.frozen; have l_GA := GA.lt
    cases B1
    · go_wp2_with fail
      (try simp only [Exit.inBlock, Exit.then]); apply bodyPost_ret; (focus (simp only [results, Try.results21]; go_simp; try rfl)); rfl
      exact ⟨rfl, ext_by⟩
    · go_wp2_with fail
      refine (HW2.out _).mono ?_
      rintro e w3 ⟨rfl, h3⟩
      have K7 := G7.ext h3
      have K8 := G8.ext h3
      have KE := GE.trans h3
      clear c_G7 f_G7 l_G7 c_G8 f_G8 l_G8 c_GA f_GA l_GA
      clear h3 G7 G8 GA GE
      have c_K7 := K7.cell; have f_K7 := K7.frozen; have l_K7 := K7.lt; have c_K8 := K8.cell; have f_K8 := K8.frozen; have l_K8 := K8.lt
      cases B2
      · go_wp2_with fail
        (try simp only [Exit.inBlock, Exit.then]); apply bodyPost_ret; (focus (simp only [results, Try.results21]; go_simp; try rfl)); rfl
        exact ⟨rfl, ext_by⟩
      · by_cases hX : x' = x + u'
        · by_cases hY : y' = y + v'
          · go_wp2_with fail
            (try simp only [Exit.inBlock, Exit.then]); apply bodyPost_ret; (focus (simp only [results, Try.results21]; go_simp; try rfl)); rfl
            exact ⟨rfl, ext_by⟩
          · go_wp2_with fail
            (try simp only [Exit.inBlock, Exit.then]); apply bodyPost_ret; (focus (simp only [results, Try.results21]; go_simp; try rfl)); rfl
            exact ⟨ret_b (by simp [hY]), ext_by⟩
        · go_wp2_with fail
          (try simp only [Exit.inBlock, Exit.then]); apply bodyPost_ret; (focus (simp only [results, Try.results21]; go_simp; try rfl)); rfl
          exact ⟨rfl, ext_by⟩
  · go_wp2_with fail
    (try simp only [Exit.inBlock, Exit.then]); apply bodyPost_ret; (focus (simp only [results, Try.results21]; go_simp; try rfl)); rfl
    exact ⟨false, by simp [hE], rfl, ext_by⟩
end Go.Proofs.Ytfniicgoeljmdaa

namespace Go.Proofs.Ytfniicgoeljmdaa
open Go.RowKit
def possibleB (l : List Body) (home : Int) (d : Drf) (tick : Int) (s n : St) : Bool :=
  decide (wdErr l home d = 0) && (within tick 0 1073741823 && (decide (stErr s = 0) && (decide (stErr n = 0) && followsB l home d tick s n)))
set_option maxRecDepth 20000 in
set_option maxHeartbeats 2000000 in
theorem oPossible_c (A : Option Addr) (n c : Nat) (home : Int) (l : List Body) (d : Drf) (tick : Int) (x y u v x' y' u' v' : Int) (w : World) (hl : Bodies w A n l) :
    Calls Try.prog 7 #[.agg #[.slice A n c, .int .i64 home], .agg #[.int .i64 d.light.lo, .int .i64 d.light.hi, .int .i64 d.heat.lo, .int .i64 d.heat.hi, .int .i64 d.gas], .int .i64 tick, .agg #[.int .i64 x, .int .i64 y, .int .i64 u, .int .i64 v], .agg #[.int .i64 x', .int .i64 y', .int .i64 u', .int .i64 v']] w fun e w' =>
      e = .returned (.bool (possibleB l home d tick ⟨x, y, u, v⟩ ⟨x', y', u', v'⟩)) ∧ Ext w w' := by
  have HW := Lib.hid fun W (hW : Ext w W) => oCheckWorld_c A n c home l d.light.lo d.light.hi d.heat.lo d.heat.hi d.gas W (Bodies.ext hW hl)
  have HT := Lib.hid fun W => oWithin_c tick 0 1073741823 W
  have HS := Lib.hid fun W => oCheckState_c x y u v W
  have HN := Lib.hid fun W => oCheckState_c x' y' u' v' W
  have HF := Lib.hid fun (h1 : stErr ⟨x, y, u, v⟩ = 0) (h2 : stErr ⟨x', y', u', v'⟩ = 0) W (hW : Ext w W) => oFollows_c A n c home l d tick x y u v x' y' u' v' W (Bodies.ext hW hl) h1 h2
  unfold possibleB
  have hd : (⟨⟨d.light.lo, d.light.hi⟩, ⟨d.heat.lo, d.heat.hi⟩, d.gas⟩ : Drf) = d := rfl
  rw [hd] at HW
  generalize wdErr l home d = E at *
  generalize within tick 0 1073741823 = T at *
  generalize stErr ⟨x, y, u, v⟩ = S at *
  generalize stErr ⟨x', y', u', v'⟩ = N at *
  generalize followsB l home d tick ⟨x, y, u, v⟩ ⟨x', y', u', v'⟩ = F at *
  obtain ⟨⟨ll, lh⟩, ⟨hl', hh⟩, g⟩ := d
  dsimp only at HW HF ⊢
  clear hl hd
  go_enter Try.func7, Try.ntmps7
  go_wp2_with fail
  refine (HW.out _ ext_by).mono ?_
  rintro e w1 ⟨rfl, h1⟩
  have W5 : Blk w1 (w.heap.size) 26 #[.slice A n c, .int .i64 home] := ((((Blk.newAt (by simp)).alloc _).alloc _).alloc _).ext h1
  have W6 : Blk w1 (w.heap.size + 1) 34 #[.int .i64 ll, .int .i64 lh, .int .i64 hl', .int .i64 hh, .int .i64 g] := (((Blk.newAt (by simp)).alloc _).alloc _).ext h1
  have F7 : Blk w1 (w.heap.size + 1 + 1) 38 #[.int .i64 x, .int .i64 y, .int .i64 u, .int .i64 v] := ((Blk.newAt (by simp)).alloc _).ext h1
  have F8 : Blk w1 (w.heap.size + 1 + 1 + 1) 38 #[.int .i64 x', .int .i64 y', .int .i64 u', .int .i64 v'] := (Blk.newAt (by simp)).ext h1
  have FE : Ext w w1 := ext_by
  clear h1
  have c_W5 := W5.cell; have f_W5 := W5.frozen; have l_W5 := W5.lt; have c_W6 := W6.cell; have f_W6 := W6.frozen; have l_W6 := W6.lt; have c_F7 := F7.cell; have f_F7 := F7.frozen; have l_F7 := F7.lt; have c_F8 := F8.cell; have f_F8 := F8.frozen; have l_F8 := F8.lt
  by_cases hE : E = 0
  · subst hE
    go_wp2_with fail
    refine (HT.out _).mono ?_
    rintro e w2 ⟨rfl, h2⟩
    have A2 := W5.ext h2
    have B2 := W6.ext h2
    have C2 := F7.ext h2
    have D2 := F8.ext h2
    have E2 := FE.trans h2
    clear c_W5 f_W5 l_W5 c_W6 f_W6 l_W6 c_F7 f_F7 l_F7 c_F8 f_F8 l_F8
    clear h2 W5 W6 F7 F8 FE
    have c_A2 := A2.cell; have f_A2 := A2.frozen; have l_A2 := A2.lt; have c_B2 := B2.cell; have f_B2 := B2.frozen; have l_B2 := B2.lt; have c_C2 := C2.cell; have f_C2 := C2.frozen; have l_C2 := C2.lt; have c_D2 := D2.cell; have f_D2 := D2.frozen; have l_D2 := D2.lt
    cases T
    · go_wp2_with fail
      go_ret
      exact ⟨ret_b (by simp []), E2⟩
    · go_wp2_with fail
      refine (HS.out _).mono ?_
      rintro e w3 ⟨rfl, h3⟩
      have A3 := A2.ext h3
      have B3 := B2.ext h3
      have C3 := C2.ext h3
      have D3 := D2.ext h3
      have E3 := E2.trans h3
      clear c_A2 f_A2 l_A2 c_B2 f_B2 l_B2 c_C2 f_C2 l_C2 c_D2 f_D2 l_D2
      clear h3 A2 B2 C2 D2 E2
      have c_A3 := A3.cell; have f_A3 := A3.frozen; have l_A3 := A3.lt; have c_B3 := B3.cell; have f_B3 := B3.frozen; have l_B3 := B3.lt; have c_C3 := C3.cell; have f_C3 := C3.frozen; have l_C3 := C3.lt; have c_D3 := D3.cell; have f_D3 := D3.frozen; have l_D3 := D3.lt
      by_cases hS : S = 0
      · subst hS
        go_wp2_with fail
        refine (HN.out _).mono ?_
        rintro e w4 ⟨rfl, h4⟩
        have A4 := A3.ext h4
        have B4 := B3.ext h4
        have C4 := C3.ext h4
        have D4 := D3.ext h4
        have E4 := E3.trans h4
        clear c_A3 f_A3 l_A3 c_B3 f_B3 l_B3 c_C3 f_C3 l_C3 c_D3 f_D3 l_D3
        clear h4 A3 B3 C3 D3 E3
        have c_A4 := A4.cell; have f_A4 := A4.frozen; have l_A4 := A4.lt; have c_B4 := B4.cell; have f_B4 := B4.frozen; have l_B4 := B4.lt; have c_C4 := C4.cell; have f_C4 := C4.frozen; have l_C4 := C4.lt; have c_D4 := D4.cell; have f_D4 := D4.frozen; have l_D4 := D4.lt
        by_cases hN : N = 0
        · subst hN
          go_wp2_with fail
          refine (HF.out (by first | trivial | rfl) (by first | trivial | rfl) _ E4).mono ?_
          rintro e w5 ⟨rfl, h5⟩
          have E5 := E4.trans h5
          go_wp2_with fail
          go_ret
          exact ⟨ret_b (by simp), E5⟩
        · go_wp2_with fail
          go_ret
          exact ⟨ret_b (by simp), E4⟩
      · go_wp2_with fail
        go_ret
        exact ⟨ret_b (by simp), E3⟩
  · go_wp2_with fail
    go_ret
    exact ⟨ret_b (by simp [hE]), FE⟩
end Go.Proofs.Ytfniicgoeljmdaa

namespace Go.Proofs.Ytfniicgoeljmdaa
open Go.RowKit

theorem gas_c (w : World) :
    Calls Try.prog 18 #[] w fun e w' => e = .returned (.agg #[.int .i64 0, .int .i64 0, .int .i64 0, .int .i64 0, .int .i64 1]) ∧ Ext w w' := by
  go_enter Try.func18, Try.ntmps18
  go_wp2_with fail
  (try simp only [Exit.inBlock, Exit.then]); apply bodyPost_ret; (focus (simp only [results, Try.results18]; go_simp; try rfl)); rfl
  exact ⟨rfl, ext_by⟩
theorem shown4_c (w : World) :
    Calls Try.prog 19 #[] w fun e w' => e = .returned (.agg #[.int .i64 0, .int .i64 10, .int .i64 0, .int .i64 3, .int .i64 5, .int .i64 5, .int .i64 (-2), .int .i64 0]) ∧ Ext w w' := by
  go_enter Try.func19, Try.ntmps19
  go_wp2_with fail
  (try simp only [Exit.inBlock, Exit.then]); apply bodyPost_ret; (focus (simp only [results, Try.results19]; go_simp; try rfl)); rfl
  exact ⟨rfl, ext_by⟩
def stillL : List Body := [⟨0, 0, [⟨0, 0⟩]⟩]
theorem one4 {α : Type} {a : α} {P : α → Nat → Prop} (h0 : P a 0) : ∀ k (h : k < [a].length), P ([a][k]) k
  | 0, _ => h0
theorem still_bodies {w : World} {b1 b3 : Nat} {t1 t3 : TypeId} (h1 : Blk w b1 t1 #[.int .i64 0, .int .i64 0]) (h3 : Blk w b3 t3 #[.int .i64 0, .int .i64 0, .slice (some ⟨b1, 0, none⟩) 1 1]) :
    Bodies w (some ⟨b3, 0, none⟩) 1 stillL :=
  ⟨rfl, by decide, .inr ⟨b3, 0, rfl, one4 (P := fun x k => bodyAt w x b3 (0 + k * 3)) ⟨h3.cell 0, h3.cell 1, _, _, _, h3.cell 2, ⟨rfl, by decide, .inr ⟨b1, 0, rfl, one4 (P := fun x k => vecAt w x b1 (0 + k * 2)) ⟨h1.cell 0, h1.cell 1⟩⟩⟩⟩⟩⟩
set_option maxHeartbeats 1000000 in
theorem still_c (w : World) :
    Calls Try.prog 17 #[] w fun e w' => (∃ A c, e = .returned (.agg #[.slice A 1 c, .int .i64 0]) ∧ Bodies w' A 1 stillL) ∧ Ext w w' := by
  go_enter Try.func17, Try.ntmps17
  go_wp2_with fail
  (try simp only [Exit.inBlock, Exit.then]); apply bodyPost_ret; (focus (simp only [results, Try.results17]; go_simp; try rfl)); rfl
  refine ⟨⟨_, _, rfl, still_bodies (t1 := 69) (t3 := 67) (b1 := w.heap.size + 1) (b3 := w.heap.size + 1 + 1) ?_ ?_⟩, ext_by⟩
  · exact (Blk.newAt (by simp)).alloc _
  · exact Blk.newAt (by simp)
theorem still_step : stepM stillL 0 ⟨⟨0, 0⟩, ⟨0, 0⟩, 1⟩ 0 ⟨⟨0, 10⟩, ⟨0, 3⟩, ⟨5, 5⟩, ⟨-2, 0⟩⟩ = ⟨⟨⟨4, 16⟩, ⟨-3, 4⟩, ⟨4, 6⟩, ⟨-3, 1⟩⟩, 0⟩ := by kernel_rfl
theorem still_possible : possibleB stillL 0 ⟨⟨0, 0⟩, ⟨0, 0⟩, 1⟩ 0 ⟨0, 0, 5, 0⟩ ⟨6, -1, 6, -1⟩ = true := by decide +kernel
set_option maxRecDepth 20000 in
set_option maxHeartbeats 2000000 in
theorem awake4_c (w : World) : Calls Try.prog 6 #[] w fun e w' => e = .returned (.bool true) ∧ Ext w w' := by
  go_enter Try.func6, Try.ntmps6
  go_wp2_with fail
  refine (still_c _).mono ?_
  rintro e w1 ⟨⟨A1, c1, rfl, hs1⟩, h1⟩
  go_wp2_with fail
  refine (gas_c _).mono ?_
  rintro e w2 ⟨rfl, h2⟩
  go_wp2_with fail
  refine (shown4_c _).mono ?_
  rintro e w3 ⟨rfl, h3⟩
  go_wp2_with fail
  refine (oStep_c _ _ _ _ _ _ stillL ⟨⟨0, 0⟩, ⟨0, 0⟩, 1⟩ ⟨⟨0, 10⟩, ⟨0, 3⟩, ⟨5, 5⟩, ⟨-2, 0⟩⟩ (Bodies.ext ext_by hs1)).mono ?_
  rw [still_step]
  rintro e w4 ⟨rfl, h4⟩
  go_wp2_with fail
  refine (still_c _).mono ?_
  rintro e w5 ⟨⟨A2, c2, rfl, hs5⟩, h5⟩
  go_wp2_with fail
  refine (gas_c _).mono ?_
  rintro e w6 ⟨rfl, h6⟩
  go_wp2_with fail
  refine (oPossible_c _ _ _ _ stillL ⟨⟨0, 0⟩, ⟨0, 0⟩, 1⟩ 0 0 0 5 0 6 (-1) 6 (-1) _ (Bodies.ext ext_by hs5)).mono ?_
  rw [still_possible]
  rintro e w7 ⟨rfl, h7⟩
  go_wp2_with fail
  go_ret
  exact ⟨rfl, ext_by⟩
end Go.Proofs.Ytfniicgoeljmdaa
