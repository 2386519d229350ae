/- A possible successor of a state: the program. No condition. Whether a state may follow another: the program. No condition. Where a list is no truth any more. No condition. The chapter's examples that every law of the orbits asks. Draft. -/
import Derived.Test.YtfniicgoeljmdaaGreatStepM
import Derived.Test.YtfniicgoeljmdaaGreatBoxSet
namespace Go.Proofs.YtfniicgoeljmdaaGreat
open Go.RowKit

def followsB (l : List Body) (home : Int) (d : Drf) (tick : Int) (s n : St) : Bool :=
  decide ((overM l home d tick ⟨⟨s.x, s.x⟩, ⟨s.y, s.y⟩⟩).e = 0) && within (n.u - s.u) (overM l home d tick ⟨⟨s.x, s.x⟩, ⟨s.y, s.y⟩⟩).a.x.lo (overM l home d tick ⟨⟨s.x, s.x⟩, ⟨s.y, s.y⟩⟩).a.x.hi && within (n.v - s.v) (overM l home d tick ⟨⟨s.x, s.x⟩, ⟨s.y, s.y⟩⟩).a.y.lo (overM l home d tick ⟨⟨s.x, s.x⟩, ⟨s.y, s.y⟩⟩).a.y.hi && decide (n.x = s.x + n.u) && decide (n.y = s.y + n.v)

set_option maxRecDepth 20000 in
set_option maxHeartbeats 2000000 in
theorem oFollows_c (A : Option Addr) (n c : Nat) (home : Int) (l : List Body) (d : Drf) (tick : Int) (x y u v x' y' u' v' : Int) (w : World) (hl : Bodies w A n l) (h1 : stErr ⟨x, y, u, v⟩ = 0) (h2 : stErr ⟨x', y', u', v'⟩ = 0) :
    Calls Tryz.prog 69 #[.agg #[.slice A n c, .int .i64 home], .agg #[.int .i64 d.light.lo, .int .i64 d.light.hi, .int .i64 d.heat.lo, .int .i64 d.heat.hi, .int .i64 d.gas], .int .i64 tick, .agg #[.int .i64 x, .int .i64 y, .int .i64 u, .int .i64 v], .agg #[.int .i64 x', .int .i64 y', .int .i64 u', .int .i64 v']] w fun e w' =>
      e = .returned (.bool (followsB l home d tick ⟨x, y, u, v⟩ ⟨x', y', u', v'⟩)) ∧ Ext w w' := by
  have HP := Lib.hid fun W (hW : Ext w W) => fPullAt_c A n c home l d tick x y W (Bodies.ext hW hl)
  obtain ⟨⟨p1, p2⟩, ⟨p3, p4⟩, ⟨p5, p6⟩, p7, p8⟩ := stErr_ok.1 h1
  obtain ⟨⟨q1, q2⟩, ⟨q3, q4⟩, ⟨q5, q6⟩, q7, q8⟩ := stErr_ok.1 h2
  dsimp only at p1 p2 p3 p4 p5 p6 p7 p8 q1 q2 q3 q4 q5 q6 q7 q8
  unfold followsB
  dsimp only
  generalize overM _ _ _ _ _ = R at *
  obtain ⟨⟨⟨al, ah⟩, bl, bh⟩, E⟩ := R
  obtain ⟨⟨ll, lh⟩, ⟨hl', hh⟩, g⟩ := d
  dsimp only at HP ⊢
  have HW1 := Lib.hid fun W => oWithin_c (u' - u) al ah W
  have HW2 := Lib.hid fun W => oWithin_c (v' - v) bl bh W
  generalize within (u' - u) al ah = B1 at *
  generalize within (v' - v) bl bh = B2 at *
  have b1 : -9223372036854775808 ≤ u' - u ∧ u' - u < 9223372036854775808 := by omega
  have b2 : -9223372036854775808 ≤ v' - v ∧ v' - v < 9223372036854775808 := by omega
  have b3 : -9223372036854775808 ≤ x + u' ∧ x + u' < 9223372036854775808 := by omega
  have b4 : -9223372036854775808 ≤ y + v' ∧ y + v' < 9223372036854775808 := by omega
  have hR : ∀ e w', (∃ (k : Bool), k = (decide (E = 0) && B1 && B2 && decide (x' = x + u') && decide (y' = y + v')) ∧ e = Ending.returned (.bool k) ∧ Ext w w') → (e = .returned (.bool (decide (E = 0) && B1 && B2 && decide (x' = x + u') && decide (y' = y + v'))) ∧ Ext w w') := by
    rintro e w' ⟨k, rfl, rfl, h⟩; exact ⟨rfl, h⟩
  refine Calls.mono ?_ hR
  clear hR h1 h2 hl p1 p2 p3 p4 p5 p6 p7 p8 q1 q2 q3 q4 q5 q6 q7 q8
  go_enter Tryz.func69, Tryz.ntmps69
  go_wp2_with fail
  refine (HP.out _ ext_by).mono ?_
  rintro e w1 ⟨rfl, h1'⟩
  have F7 : Blk w1 (w.heap.size + 1 + 1) 30 #[.int .i64 x, .int .i64 y, .int .i64 u, .int .i64 v] := ((Blk.newAt (by simp)).alloc _).ext h1'
  have F8 : Blk w1 (w.heap.size + 1 + 1 + 1) 30 #[.int .i64 x', .int .i64 y', .int .i64 u', .int .i64 v'] := (Blk.newAt (by simp)).ext h1'
  have FE : Ext w w1 := ext_by
  clear h1'
  have c_F7 := F7.cell; have f_F7 := F7.frozen; have l_F7 := F7.lt; have c_F8 := F8.cell; have f_F8 := F8.frozen; have l_F8 := F8.lt
  by_cases hE : E = 0
  · subst hE
    go_wp2_with fail
    refine (HW1.out _).mono ?_
    rintro e w2 ⟨rfl, h2⟩
    have G7 := (F7.alloc _).ext h2
    have G8 := (F8.alloc _).ext h2
    have GA : Blk w2 w1.heap.size 112 #[.int .i64 al, .int .i64 ah, .int .i64 bl, .int .i64 bh] := (Blk.newAt (by simp)).ext h2
    have GE := (FE.alloc _).trans h2
    clear c_F7 f_F7 l_F7 c_F8 f_F8 l_F8
    clear h2 F7 F8 FE
    have c_G7 := G7.cell; have f_G7 := G7.frozen; have l_G7 := G7.lt; have c_G8 := G8.cell; have f_G8 := G8.frozen; have l_G8 := G8.lt; have c_GA := GA.cell; have f_GA := GA.frozen; have l_GA := GA.lt
    cases B1
    · go_wp2_with fail
      (try simp only [Exit.inBlock, Exit.then]); apply bodyPost_ret; (focus (simp only [results, Tryz.results69]; go_simp; try rfl)); rfl
      exact ⟨rfl, ext_by⟩
    · go_wp2_with fail
      refine (HW2.out _).mono ?_
      rintro e w3 ⟨rfl, h3⟩
      have K7 := G7.ext h3
      have K8 := G8.ext h3
      have KE := GE.trans h3
      clear c_G7 f_G7 l_G7 c_G8 f_G8 l_G8 c_GA f_GA l_GA
      clear h3 G7 G8 GA GE
      have c_K7 := K7.cell; have f_K7 := K7.frozen; have l_K7 := K7.lt; have c_K8 := K8.cell; have f_K8 := K8.frozen; have l_K8 := K8.lt
      cases B2
      · go_wp2_with fail
        (try simp only [Exit.inBlock, Exit.then]); apply bodyPost_ret; (focus (simp only [results, Tryz.results69]; go_simp; try rfl)); rfl
        exact ⟨rfl, ext_by⟩
      · by_cases hX : x' = x + u'
        · by_cases hY : y' = y + v'
          · go_wp2_with fail
            (try simp only [Exit.inBlock, Exit.then]); apply bodyPost_ret; (focus (simp only [results, Tryz.results69]; go_simp; try rfl)); rfl
            exact ⟨rfl, ext_by⟩
          · go_wp2_with fail
            (try simp only [Exit.inBlock, Exit.then]); apply bodyPost_ret; (focus (simp only [results, Tryz.results69]; go_simp; try rfl)); rfl
            exact ⟨ret_b (by simp [hY]), ext_by⟩
        · go_wp2_with fail
          (try simp only [Exit.inBlock, Exit.then]); apply bodyPost_ret; (focus (simp only [results, Tryz.results69]; go_simp; try rfl)); rfl
          exact ⟨rfl, ext_by⟩
  · go_wp2_with fail
    (try simp only [Exit.inBlock, Exit.then]); apply bodyPost_ret; (focus (simp only [results, Tryz.results69]; go_simp; try rfl)); rfl
    exact ⟨false, by simp [hE], rfl, ext_by⟩
end Go.Proofs.YtfniicgoeljmdaaGreat

namespace Go.Proofs.YtfniicgoeljmdaaGreat
open Go.RowKit
def possibleB (l : List Body) (home : Int) (d : Drf) (tick : Int) (s n : St) : Bool :=
  decide (wdErr l home d = 0) && (within tick 0 1073741823 && (decide (stErr s = 0) && (decide (stErr n = 0) && followsB l home d tick s n)))
set_option maxRecDepth 20000 in
set_option maxHeartbeats 2000000 in
theorem oPossible_c (A : Option Addr) (n c : Nat) (home : Int) (l : List Body) (d : Drf) (tick : Int) (x y u v x' y' u' v' : Int) (w : World) (hl : Bodies w A n l) :
    Calls Tryz.prog 18 #[.agg #[.slice A n c, .int .i64 home], .agg #[.int .i64 d.light.lo, .int .i64 d.light.hi, .int .i64 d.heat.lo, .int .i64 d.heat.hi, .int .i64 d.gas], .int .i64 tick, .agg #[.int .i64 x, .int .i64 y, .int .i64 u, .int .i64 v], .agg #[.int .i64 x', .int .i64 y', .int .i64 u', .int .i64 v']] w fun e w' =>
      e = .returned (.bool (possibleB l home d tick ⟨x, y, u, v⟩ ⟨x', y', u', v'⟩)) ∧ Ext w w' := by
  have HW := Lib.hid fun W (hW : Ext w W) => oCheckWorld_c A n c home l d.light.lo d.light.hi d.heat.lo d.heat.hi d.gas W (Bodies.ext hW hl)
  have HT := Lib.hid fun W => oWithin_c tick 0 1073741823 W
  have HS := Lib.hid fun W => oCheckState_c x y u v W
  have HN := Lib.hid fun W => oCheckState_c x' y' u' v' W
  have HF := Lib.hid fun (h1 : stErr ⟨x, y, u, v⟩ = 0) (h2 : stErr ⟨x', y', u', v'⟩ = 0) W (hW : Ext w W) => oFollows_c A n c home l d tick x y u v x' y' u' v' W (Bodies.ext hW hl) h1 h2
  unfold possibleB
  have hd : (⟨⟨d.light.lo, d.light.hi⟩, ⟨d.heat.lo, d.heat.hi⟩, d.gas⟩ : Drf) = d := rfl
  rw [hd] at HW
  generalize wdErr l home d = E at *
  generalize within tick 0 1073741823 = T at *
  generalize stErr ⟨x, y, u, v⟩ = S at *
  generalize stErr ⟨x', y', u', v'⟩ = N at *
  generalize followsB l home d tick ⟨x, y, u, v⟩ ⟨x', y', u', v'⟩ = F at *
  obtain ⟨⟨ll, lh⟩, ⟨hl', hh⟩, g⟩ := d
  dsimp only at HW HF ⊢
  clear hl hd
  go_enter Tryz.func18, Tryz.ntmps18
  go_wp2_with fail
  refine (HW.out _ ext_by).mono ?_
  rintro e w1 ⟨rfl, h1⟩
  have W5 : Blk w1 (w.heap.size) 24 #[.slice A n c, .int .i64 home] := ((((Blk.newAt (by simp)).alloc _).alloc _).alloc _).ext h1
  have W6 : Blk w1 (w.heap.size + 1) 28 #[.int .i64 ll, .int .i64 lh, .int .i64 hl', .int .i64 hh, .int .i64 g] := (((Blk.newAt (by simp)).alloc _).alloc _).ext h1
  have F7 : Blk w1 (w.heap.size + 1 + 1) 30 #[.int .i64 x, .int .i64 y, .int .i64 u, .int .i64 v] := ((Blk.newAt (by simp)).alloc _).ext h1
  have F8 : Blk w1 (w.heap.size + 1 + 1 + 1) 30 #[.int .i64 x', .int .i64 y', .int .i64 u', .int .i64 v'] := (Blk.newAt (by simp)).ext h1
  have FE : Ext w w1 := ext_by
  clear h1
  have c_W5 := W5.cell; have f_W5 := W5.frozen; have l_W5 := W5.lt; have c_W6 := W6.cell; have f_W6 := W6.frozen; have l_W6 := W6.lt; have c_F7 := F7.cell; have f_F7 := F7.frozen; have l_F7 := F7.lt; have c_F8 := F8.cell; have f_F8 := F8.frozen; have l_F8 := F8.lt
  by_cases hE : E = 0
  · subst hE
    go_wp2_with fail
    refine (HT.out _).mono ?_
    rintro e w2 ⟨rfl, h2⟩
    have A2 := W5.ext h2
    have B2 := W6.ext h2
    have C2 := F7.ext h2
    have D2 := F8.ext h2
    have E2 := FE.trans h2
    clear c_W5 f_W5 l_W5 c_W6 f_W6 l_W6 c_F7 f_F7 l_F7 c_F8 f_F8 l_F8
    clear h2 W5 W6 F7 F8 FE
    have c_A2 := A2.cell; have f_A2 := A2.frozen; have l_A2 := A2.lt; have c_B2 := B2.cell; have f_B2 := B2.frozen; have l_B2 := B2.lt; have c_C2 := C2.cell; have f_C2 := C2.frozen; have l_C2 := C2.lt; have c_D2 := D2.cell; have f_D2 := D2.frozen; have l_D2 := D2.lt
    cases T
    · go_wp2_with fail
      go_ret
      exact ⟨ret_b (by simp []), E2⟩
    · go_wp2_with fail
      refine (HS.out _).mono ?_
      rintro e w3 ⟨rfl, h3⟩
      have A3 := A2.ext h3
      have B3 := B2.ext h3
      have C3 := C2.ext h3
      have D3 := D2.ext h3
      have E3 := E2.trans h3
      clear c_A2 f_A2 l_A2 c_B2 f_B2 l_B2 c_C2 f_C2 l_C2 c_D2 f_D2 l_D2
      clear h3 A2 B2 C2 D2 E2
      have c_A3 := A3.cell; have f_A3 := A3.frozen; have l_A3 := A3.lt; have c_B3 := B3.cell; have f_B3 := B3.frozen; have l_B3 := B3.lt; have c_C3 := C3.cell; have f_C3 := C3.frozen; have l_C3 := C3.lt; have c_D3 := D3.cell; have f_D3 := D3.frozen; have l_D3 := D3.lt
      by_cases hS : S = 0
      · subst hS
        go_wp2_with fail
        refine (HN.out _).mono ?_
        rintro e w4 ⟨rfl, h4⟩
        have A4 := A3.ext h4
        have B4 := B3.ext h4
        have C4 := C3.ext h4
        have D4 := D3.ext h4
        have E4 := E3.trans h4
        clear c_A3 f_A3 l_A3 c_B3 f_B3 l_B3 c_C3 f_C3 l_C3 c_D3 f_D3 l_D3
        clear h4 A3 B3 C3 D3 E3
        have c_A4 := A4.cell; have f_A4 := A4.frozen; have l_A4 := A4.lt; have c_B4 := B4.cell; have f_B4 := B4.frozen; have l_B4 := B4.lt; have c_C4 := C4.cell; have f_C4 := C4.frozen; have l_C4 := C4.lt; have c_D4 := D4.cell; have f_D4 := D4.frozen; have l_D4 := D4.lt
        by_cases hN : N = 0
        · subst hN
          go_wp2_with fail
          refine (HF.out (by first | trivial | rfl) (by first | trivial | rfl) _ E4).mono ?_
          rintro e w5 ⟨rfl, h5⟩
          have E5 := E4.trans h5
          go_wp2_with fail
          go_ret
          exact ⟨ret_b (by simp), E5⟩
        · go_wp2_with fail
          go_ret
          exact ⟨ret_b (by simp), E4⟩
      · go_wp2_with fail
        go_ret
        exact ⟨ret_b (by simp), E3⟩
  · go_wp2_with fail
    go_ret
    exact ⟨ret_b (by simp [hE]), FE⟩
end Go.Proofs.YtfniicgoeljmdaaGreat

namespace Go.Proofs.YtfniicgoeljmdaaGreat
open Go.RowKit

def truthF (l : List Body) (home : Int) (d : Drf) (tick : Int) : Option St → List St → Nat → Int
  | _, [], _ => -1
  | none, s :: r, k => if stErr s = 0 then truthF l home d tick (some s) r (k + 1) else k
  | some p, s :: r, k => if stErr s = 0 ∧ followsB l home d (tick + k - 1) p s = true then truthF l home d tick (some s) r (k + 1) else k
def truthM (l : List Body) (home : Int) (d : Drf) (tick : Int) (L : List St) : Int :=
  if wdErr l home d = 0 ∧ within tick 0 1073741824 = true ∧ tick + L.length - 1 ≤ 1073741824 then truthF l home d tick none L 0 else 0
set_option maxRecDepth 20000 in
set_option maxHeartbeats 4000000 in
theorem oTruth_c (A : Option Addr) (n c : Nat) (home : Int) (l : List Body) (d : Drf) (tick : Int) (B : Option Addr) (m e : Nat) (L : List St) (w : World) (hl : Bodies w A n l) (hL : Sts w B m L) (hm : m ≤ 1000) :
    Calls Tryz.prog 20 #[.agg #[.slice A n c, .int .i64 home], .agg #[.int .i64 d.light.lo, .int .i64 d.light.hi, .int .i64 d.heat.lo, .int .i64 d.heat.hi, .int .i64 d.gas], .int .i64 tick, .slice B m e] w fun e w' =>
      e = .returned (.int .i64 (truthM l home d tick L)) ∧ Ext w w' := by
  have HW := Lib.hid fun W (hW : Ext w W) => oCheckWorld_c A n c home l d.light.lo d.light.hi d.heat.lo d.heat.hi d.gas W (Bodies.ext hW hl)
  have hd : (⟨⟨d.light.lo, d.light.hi⟩, ⟨d.heat.lo, d.heat.hi⟩, d.gas⟩ : Drf) = d := rfl
  rw [hd] at HW
  have HT := Lib.hid fun W => oWithin_c tick 0 1073741824 W
  have HS := Lib.hid fun (s : St) W => oCheckState_c s.x s.y s.u s.v W
  change Hid (∀ (s : St) W, Calls _ _ _ W fun e w' => e = .returned (.int .i64 (stErr s)) ∧ _) at HS
  have HF : Hid (∀ (p s : St) (t : Int), wdErr l home d = 0 → 0 ≤ t ∧ t ≤ 1073741824 → stErr p = 0 → stErr s = 0 → ∀ W, Ext w W → Calls Tryz.prog 69 #[.agg #[.slice A n c, .int .i64 home], .agg #[.int .i64 d.light.lo, .int .i64 d.light.hi, .int .i64 d.heat.lo, .int .i64 d.heat.hi, .int .i64 d.gas], .int .i64 t, .agg #[.int .i64 p.x, .int .i64 p.y, .int .i64 p.u, .int .i64 p.v], .agg #[.int .i64 s.x, .int .i64 s.y, .int .i64 s.u, .int .i64 s.v]] W fun e w' =>
      e = .returned (.bool (followsB l home d t p s)) ∧ Ext W w') := Lib.hid fun p s t h0 ht h1 h2 W hW => oFollows_c A n c home l d t p.x p.y p.u p.v s.x s.y s.u s.v W (Bodies.ext hW hl) h1 h2
  have HLn := Lib.hid hL.len
  have HLs := Lib.hid fun W (hW : Ext w W) => Sts.ext hW hL
  obtain ⟨T, hT⟩ : ∃ T, truthM l home d tick L = T := ⟨_, rfl⟩
  rw [hT]
  unfold truthM at hT
  obtain ⟨E, hE⟩ : ∃ E, wdErr l home d = E := ⟨_, rfl⟩
  rw [hE] at HW HF hT
  obtain ⟨K, hK⟩ : ∃ K, within tick 0 1073741824 = K := ⟨_, rfl⟩
  rw [hK] at HT hT
  have hk := within_iff tick 0 1073741824
  rw [hK] at hk
  rw [← hL.len] at hT
  have HTT := Lib.hid hT
  clear hT hE hK hd hl hL
  obtain ⟨⟨ll, lh⟩, ⟨hl', hh⟩, g⟩ := d
  dsimp only at HW HF
  by_cases hE : E = 0
  · subst hE
    cases K
    · have HT0 : Hid (T = 0) := by have := HTT.out; rw [if_neg (by simp)] at this; exact this.symm
      clear HTT hk
      go_enter Tryz.func20, Tryz.ntmps20
      go_wp2_with fail
      refine (HW.out _ ext_by).mono ?_
      rintro e w1 ⟨rfl, h1⟩
      obtain ⟨hc_w1, hf_w1, hz_w1⟩ := bcell h1; (try simp only [szA] at hz_w1); (try have := wz0 w w1); (try have := wz1 w w1); (try have := wz2 w w1); (try have := wz3 w w1); (try have := wz4 w w1)
      go_wp2_with fail
      refine (HT.out _).mono ?_
      rintro e w2 ⟨rfl, h2⟩
      obtain ⟨hc_w2, hf_w2, hz_w2⟩ := bcell h2; (try simp only [szA] at hz_w2); (try have := wz0 w w2); (try have := wz1 w w2); (try have := wz2 w w2); (try have := wz3 w w2); (try have := wz4 w w2)
      go_wp2_with fail
      go_ret
      exact ⟨ret_i (by rw [HT0.out]), ext_by⟩
    · obtain ⟨hk1, hk2⟩ := hk.1 rfl
      clear hk
      by_cases hb : tick + m - 1 ≤ 1073741824
      · have HT0 : Hid (T = truthF l home ⟨⟨ll, lh⟩, ⟨hl', hh⟩, g⟩ tick none L 0) := by have := HTT.out; rw [if_pos ⟨rfl, rfl, hb⟩] at this; exact this.symm
        clear HTT
        go_enter Tryz.func20, Tryz.ntmps20
        go_wp2_with fail
        refine (HW.out _ ext_by).mono ?_
        rintro e w1 ⟨rfl, h1⟩
        have B4 : Blk w1 w.heap.size 24 #[.slice A n c, .int .i64 home] := ((Blk.newAt rfl).alloc _).ext h1
        have B5 : Blk w1 (w.heap.size + 1) 28 #[.int .i64 ll, .int .i64 lh, .int .i64 hl', .int .i64 hh, .int .i64 g] := (Blk.newAt (by simp)).ext h1
        have E1 : Ext w w1 := ext_by
        clear h1
        go_wp2_with fail
        refine (HT.out _).mono ?_
        rintro e w2 ⟨rfl, h2⟩
        replace B4 := B4.ext h2
        replace B5 := B5.ext h2
        replace E1 := E1.trans h2
        clear h2
        go_wp2_with fail
        go_loopw [30] (fun i wr => ∃ (k : Nat) (pv : Option St), k ≤ m ∧ i = .int .i64 k ∧ Hid ((k = 0 ∧ pv = none) ∨ ∃ p, 0 < k ∧ L[k - 1]? = some p ∧ stErr p = 0 ∧ pv = some p) ∧ Hid (truthF l home ⟨⟨ll, lh⟩, ⟨hl', hh⟩, g⟩ tick pv (L.drop k) k = T) ∧ Hid (Blk wr w.heap.size 24 #[.slice A n c, .int .i64 home]) ∧ Hid (Blk wr (w.heap.size + 1) 28 #[.int .i64 ll, .int .i64 lh, .int .i64 hl', .int .i64 hh, .int .i64 g]) ∧ Ext w wr) (fun i _ => m - (intOf i).toNat)
        case atStart => exact ⟨0, none, Nat.zero_le _, rfl, Lib.hid (.inl ⟨rfl, rfl⟩), Lib.hid HT0.out.symm, B4, B5, E1⟩
        case round =>
          clear B4 B5 E1
          obtain ⟨k, pv, hk, rfl, HP, HI, B4, B5, E⟩ := hrel
          by_cases hlt : k < m
          · obtain ⟨b, off, x, hB, HD, _, hx⟩ := (HLs.out wr E).one hlt
            subst hB
            have hxl : L[k]? = some x := by rw [← List.head?_drop, HD.out]; rfl
            have HXL := Lib.hid hxl
            have hi := HI.out
            rw [HD.out] at hi
            have HSX := Lib.hid fun W => HS.out x W
            obtain ⟨hx0, hx1, hx2, hx3⟩ := hx
            have hbl : b < wr.heap.size := World.block_lt_of_cell? wr _ hx0
            rcases HP.out with ⟨rfl, rfl⟩ | ⟨p, hk0, hp, hpe, rfl⟩
            · rw [truthF] at hi
              have hpos : Hid (stErr x = 0 → ∃ p, 0 < 0 + 1 ∧ L[0 + 1 - 1]? = some p ∧ stErr p = 0 ∧ some x = some p) := Lib.hid fun h => ⟨x, by omega, by simpa using HXL.out, h, rfl⟩
              clear HI HD hxl HP HXL
              by_cases hS : stErr x = 0
              · rw [if_pos hS] at hi
                have Hi := Lib.hid hi
                have HP' := Lib.hid (hpos.out hS)
                rw [hS] at HSX
                clear hi hpos hS
                obtain ⟨xx, xy, xu, xv⟩ := x
                dsimp only at hx0 hx1 hx2 hx3 HSX
                simp only [Nat.zero_mul, Nat.add_zero] at hx0 hx1 hx2 hx3
                go_wp2_with fail
                refine wp_region_text (by kernel_rfl) (by kernel_rfl) ?_
                (repeat' (first | (refine bl_off (by rfl) ?_; simp only [putX]) | (apply bl_op; rfl; (intro w1 h1; obtain ⟨hc, hf, hz⟩ := bcell h1; go_simp; (try go_bits); (first | exact ⟨rfl, Ext.refl _⟩ | (apply gives_call; first | (go_at_call 35; exact HSX.out _)) | (go_invoke; go_simp; apply gives_call; first | (go_at_call 35; exact HSX.out _)))); simp only [putX]) | (refine bl_split rfl rfl (fun hx => ?_) (fun hx => ?_) <;> simp only [hx])))
                refine bl_nil ?_
                intro w9 h9
                obtain ⟨hc_w9, hf_w9, hz_w9⟩ := bcell h9; (try simp only [szA] at hz_w9); (try have := wz0 w w9); (try have := wz1 w w9); (try have := wz2 w w9); (try have := wz3 w w9); (try have := wz4 w w9)
                go_wp2_with fail
                go_roundw
                case rel => exact ⟨0 + 1, some ⟨xx, xy, xu, xv⟩, by omega, by go_num, Lib.hid (.inr HP'.out), Hi, Lib.hid ((B4.out.alloc _).ext h9), Lib.hid ((B5.out.alloc _).ext h9), ext_by⟩
                case measure => simp [intOf]; omega
              · rw [if_neg hS] at hi
                have Hi := Lib.hid hi
                have hSd : (stErr x != 0) = true := by simpa using hS
                generalize stErr x = S at *
                clear hi hpos
                obtain ⟨xx, xy, xu, xv⟩ := x
                dsimp only at hx0 hx1 hx2 hx3 HSX
                simp only [Nat.zero_mul, Nat.add_zero] at hx0 hx1 hx2 hx3
                go_wp2_with fail
                refine wp_region_text (by kernel_rfl) (by kernel_rfl) ?_
                (repeat' (first | (refine bl_off (by rfl) ?_; simp only [putX]) | (apply bl_op; rfl; (intro w1 h1; obtain ⟨hc, hf, hz⟩ := bcell h1; go_simp; (try go_bits); (first | exact ⟨rfl, Ext.refl _⟩ | (apply gives_call; first | (go_at_call 35; exact HSX.out _)) | (go_invoke; go_simp; apply gives_call; first | (go_at_call 35; exact HSX.out _)))); simp only [putX]) | (refine bl_split rfl rfl (fun hx => ?_) (fun hx => ?_) <;> simp only [hx])))
                refine bl_nil ?_
                intro w9 h9
                obtain ⟨hc_w9, hf_w9, hz_w9⟩ := bcell h9; (try simp only [szA] at hz_w9); (try have := wz0 w w9); (try have := wz1 w w9); (try have := wz2 w w9); (try have := wz3 w w9); (try have := wz4 w w9)
                go_wp2_with fail
                go_ret
                exact ⟨ret_i (by first | exact Hi.out | (have := Hi.out; omega)), ext_by⟩
            · obtain ⟨j, rfl⟩ : ∃ j, k = j + 1 := ⟨k - 1, by omega⟩
              rw [show j + 1 - 1 = j by omega] at hp
              obtain ⟨_, b', off', hB', hpa⟩ := (HLs.out wr E).get hp
              injection hB' with hB'
              injection hB' with e1 e2 _
              subst e1 e2
              obtain ⟨hp0, hp1, hp2, hp3⟩ := hpa
              rw [truthF] at hi
              have hpos : Hid (stErr x = 0 → ∃ p, 0 < j + 1 + 1 ∧ L[j + 1 + 1 - 1]? = some p ∧ stErr p = 0 ∧ some x = some p) := Lib.hid fun h => ⟨x, by omega, by simpa using HXL.out, h, rfl⟩
              clear HI HD hxl HP HXL hp
              by_cases hS : stErr x = 0
              · have HFF := Lib.hid fun (t : Int) (ht : t = tick + j) W (hW : Ext w W) => (show Calls Tryz.prog 69 #[.agg #[.slice A n c, .int .i64 home], .agg #[.int .i64 ll, .int .i64 lh, .int .i64 hl', .int .i64 hh, .int .i64 g], .int .i64 t, .agg #[.int .i64 p.x, .int .i64 p.y, .int .i64 p.u, .int .i64 p.v], .agg #[.int .i64 x.x, .int .i64 x.y, .int .i64 x.u, .int .i64 x.v]] W fun e w' => e = .returned (.bool (followsB l home ⟨⟨ll, lh⟩, ⟨hl', hh⟩, g⟩ (tick + j) p x)) ∧ Ext W w' from by subst ht; exact HF.out p x _ (by first | trivial | rfl) (by omega) hpe hS W hW)
                have HP' := Lib.hid (hpos.out hS)
                rw [hS] at HSX
                rw [show tick + ((j + 1 : Nat) : Int) - 1 = tick + j by omega] at hi
                have hi' : (if followsB l home ⟨⟨ll, lh⟩, ⟨hl', hh⟩, g⟩ (tick + j) p x = true then truthF l home ⟨⟨ll, lh⟩, ⟨hl', hh⟩, g⟩ tick (some x) (L.drop (j + 1 + 1)) (j + 1 + 1) else ((j + 1 : Nat) : Int)) = T := by
                  rw [← hi]
                  simp [hS]
                generalize followsB l home ⟨⟨ll, lh⟩, ⟨hl', hh⟩, g⟩ (tick + j) p x = F at *
                have Hi := Lib.hid hi'
                clear hi hi' hpos hS hpe
                have c4 := B4.out.cell
                have c5 := B5.out.cell
                have l4 := B4.out.lt
                have l5 := B5.out.lt
                obtain ⟨xx, xy, xu, xv⟩ := x
                obtain ⟨px, py, pu, pv'⟩ := p
                dsimp only at hx0 hx1 hx2 hx3 hp0 hp1 hp2 hp3 HSX HFF
                have hjd : decide ((0 : Int) < (j : Int) + 1) = true := decide_eq_true (by omega)
                have hj0 : (0 : Int) < (j : Int) + 1 := by omega
                cases F
                · go_wp2_with fail
                  refine wp_region_text (by kernel_rfl) (by kernel_rfl) ?_
                  (repeat' (first | (refine bl_off (by rfl) ?_; simp only [putX]) | (apply bl_op; rfl; (intro w1 h1; obtain ⟨hc, hf, hz⟩ := bcell h1; go_simp; (try go_bits); (first | exact ⟨rfl, Ext.refl _⟩ | (apply gives_call; first | (go_at_call 35; exact HSX.out _) | (go_at_call 69; exact HFF.out _ (by omega) _ ext_by)) | (go_invoke; go_simp; apply gives_call; first | (go_at_call 35; exact HSX.out _) | (go_at_call 69; exact HFF.out _ (by omega) _ ext_by)))); simp only [putX]) | (refine bl_split rfl rfl (fun hx => ?_) (fun hx => ?_) <;> simp only [hx])))
                  refine bl_nil ?_
                  intro w9 h9
                  obtain ⟨hc_w9, hf_w9, hz_w9⟩ := bcell h9; (try simp only [szA] at hz_w9); (try have := wz0 w w9); (try have := wz1 w w9); (try have := wz2 w w9); (try have := wz3 w w9); (try have := wz4 w w9)
                  go_wp2_with fail
                  go_ret
                  exact ⟨ret_i (by have := Hi.out; simp at this; first | exact this | omega), ext_by⟩
                · go_wp2_with fail
                  refine wp_region_text (by kernel_rfl) (by kernel_rfl) ?_
                  (repeat' (first | (refine bl_off (by rfl) ?_; simp only [putX]) | (apply bl_op; rfl; (intro w1 h1; obtain ⟨hc, hf, hz⟩ := bcell h1; go_simp; (try go_bits); (first | exact ⟨rfl, Ext.refl _⟩ | (apply gives_call; first | (go_at_call 35; exact HSX.out _) | (go_at_call 69; exact HFF.out _ (by omega) _ ext_by)) | (go_invoke; go_simp; apply gives_call; first | (go_at_call 35; exact HSX.out _) | (go_at_call 69; exact HFF.out _ (by omega) _ ext_by)))); simp only [putX]) | (refine bl_split rfl rfl (fun hx => ?_) (fun hx => ?_) <;> simp only [hx])))
                  refine bl_nil ?_
                  intro w9 h9
                  obtain ⟨hc_w9, hf_w9, hz_w9⟩ := bcell h9; (try simp only [szA] at hz_w9); (try have := wz0 w w9); (try have := wz1 w w9); (try have := wz2 w w9); (try have := wz3 w w9); (try have := wz4 w w9)
                  go_wp2_with fail
                  go_roundw
                  case rel => exact ⟨j + 1 + 1, some ⟨xx, xy, xu, xv⟩, by omega, by go_num, Lib.hid (.inr HP'.out), Lib.hid (by have := Hi.out; simpa using this), Lib.hid ((B4.out.alloc _).ext h9), Lib.hid ((B5.out.alloc _).ext h9), ext_by⟩
                  case measure => simp [intOf]; omega
              · have Hi : Hid (((j + 1 : Nat) : Int) = T) := by
                  refine Lib.hid ?_
                  rw [← hi, if_neg (by simp [hS])]
                have hSd : (stErr x != 0) = true := by simpa using hS
                generalize stErr x = S at *
                clear hi hpos hpe
                obtain ⟨xx, xy, xu, xv⟩ := x
                dsimp only at hx0 hx1 hx2 hx3 HSX
                go_wp2_with fail
                refine wp_region_text (by kernel_rfl) (by kernel_rfl) ?_
                (repeat' (first | (refine bl_off (by rfl) ?_; simp only [putX]) | (apply bl_op; rfl; (intro w1 h1; obtain ⟨hc, hf, hz⟩ := bcell h1; go_simp; (try go_bits); (first | exact ⟨rfl, Ext.refl _⟩ | (apply gives_call; first | (go_at_call 35; exact HSX.out _)) | (go_invoke; go_simp; apply gives_call; first | (go_at_call 35; exact HSX.out _)))); simp only [putX]) | (refine bl_split rfl rfl (fun hx => ?_) (fun hx => ?_) <;> simp only [hx])))
                refine bl_nil ?_
                intro w9 h9
                obtain ⟨hc_w9, hf_w9, hz_w9⟩ := bcell h9; (try simp only [szA] at hz_w9); (try have := wz0 w w9); (try have := wz1 w w9); (try have := wz2 w w9); (try have := wz3 w w9); (try have := wz4 w w9)
                go_wp2_with fail
                go_ret
                exact ⟨ret_i (by first | exact Hi.out | (have := Hi.out; omega)), ext_by⟩
          · have hkn : k = m := by omega
            have hi := HI.out
            rw [hkn, HLn.out, List.drop_length] at hi
            have Hi : Hid (-1 = T) := by
              refine Lib.hid ?_
              rw [← hi]
              cases pv <;> rfl
            clear hi HI HLn hkn
            go_wp2_with fail
            go_ret
            exact ⟨ret_i Hi.out, E⟩
      · have HT0 : Hid (T = 0) := by have := HTT.out; rw [if_neg (by intro h; exact hb h.2.2)] at this; exact this.symm
        have hb' : 1073741824 < tick + m - 1 := by omega
        
        clear HTT hb
        go_enter Tryz.func20, Tryz.ntmps20
        go_wp2_with fail
        refine (HW.out _ ext_by).mono ?_
        rintro e w1 ⟨rfl, h1⟩
        obtain ⟨hc_w1, hf_w1, hz_w1⟩ := bcell h1; (try simp only [szA] at hz_w1); (try have := wz0 w w1); (try have := wz1 w w1); (try have := wz2 w w1); (try have := wz3 w w1); (try have := wz4 w w1)
        go_wp2_with fail
        refine (HT.out _).mono ?_
        rintro e w2 ⟨rfl, h2⟩
        obtain ⟨hc_w2, hf_w2, hz_w2⟩ := bcell h2; (try simp only [szA] at hz_w2); (try have := wz0 w w2); (try have := wz1 w w2); (try have := wz2 w w2); (try have := wz3 w w2); (try have := wz4 w w2)
        go_wp2_with fail
        go_ret
        exact ⟨ret_i (by rw [HT0.out]), ext_by⟩
  · have HT0 : Hid (T = 0) := by have := HTT.out; rw [if_neg (by intro h; exact hE h.1)] at this; exact this.symm
    clear HTT hk
    go_enter Tryz.func20, Tryz.ntmps20
    go_wp2_with fail
    refine (HW.out _ ext_by).mono ?_
    rintro e w1 ⟨rfl, h1⟩
    obtain ⟨hc_w1, hf_w1, hz_w1⟩ := bcell h1; (try simp only [szA] at hz_w1); (try have := wz0 w w1); (try have := wz1 w w1); (try have := wz2 w w1); (try have := wz3 w w1); (try have := wz4 w w1)
    go_wp2_with fail
    go_ret
    exact ⟨ret_i (by rw [HT0.out]), ext_by⟩
end Go.Proofs.YtfniicgoeljmdaaGreat

namespace Go.Proofs.YtfniicgoeljmdaaGreat
open Go.RowKit

theorem gas_c (w : World) :
    Calls Tryz.prog 59 #[] w fun e w' => e = .returned (.agg #[.int .i64 0, .int .i64 0, .int .i64 0, .int .i64 0, .int .i64 1]) ∧ Ext w w' := by
  go_enter Tryz.func59, Tryz.ntmps59
  go_wp2_with fail
  (try simp only [Exit.inBlock, Exit.then]); apply bodyPost_ret; (focus (simp only [results, Tryz.results59]; go_simp; try rfl)); rfl
  exact ⟨rfl, ext_by⟩
theorem shown4_c (w : World) :
    Calls Tryz.prog 60 #[] w fun e w' => e = .returned (.agg #[.int .i64 0, .int .i64 10, .int .i64 0, .int .i64 3, .int .i64 5, .int .i64 5, .int .i64 (-2), .int .i64 0]) ∧ Ext w w' := by
  go_enter Tryz.func60, Tryz.ntmps60
  go_wp2_with fail
  (try simp only [Exit.inBlock, Exit.then]); apply bodyPost_ret; (focus (simp only [results, Tryz.results60]; go_simp; try rfl)); rfl
  exact ⟨rfl, ext_by⟩
def stillL : List Body := [⟨0, 0, [⟨0, 0⟩]⟩]
theorem one4 {α : Type} {a : α} {P : α → Nat → Prop} (h0 : P a 0) : ∀ k (h : k < [a].length), P ([a][k]) k
  | 0, _ => h0
theorem still_bodies {w : World} {b1 b3 : Nat} {t1 t3 : TypeId} (h1 : Blk w b1 t1 #[.int .i64 0, .int .i64 0]) (h3 : Blk w b3 t3 #[.int .i64 0, .int .i64 0, .slice (some ⟨b1, 0, none⟩) 1 1]) :
    Bodies w (some ⟨b3, 0, none⟩) 1 stillL :=
  ⟨rfl, by decide, .inr ⟨b3, 0, rfl, one4 (P := fun x k => bodyAt w x b3 (0 + k * 3)) ⟨h3.cell 0, h3.cell 1, _, _, _, h3.cell 2, ⟨rfl, by decide, .inr ⟨b1, 0, rfl, one4 (P := fun x k => vecAt w x b1 (0 + k * 2)) ⟨h1.cell 0, h1.cell 1⟩⟩⟩⟩⟩⟩
set_option maxHeartbeats 1000000 in
theorem still_c (w : World) :
    Calls Tryz.prog 58 #[] w fun e w' => (∃ A c, e = .returned (.agg #[.slice A 1 c, .int .i64 0]) ∧ Bodies w' A 1 stillL) ∧ Ext w w' := by
  go_enter Tryz.func58, Tryz.ntmps58
  go_wp2_with fail
  (try simp only [Exit.inBlock, Exit.then]); apply bodyPost_ret; (focus (simp only [results, Tryz.results58]; go_simp; try rfl)); rfl
  refine ⟨⟨_, _, rfl, still_bodies (t1 := 85) (t3 := 97) (b1 := w.heap.size + 1) (b3 := w.heap.size + 1 + 1) ?_ ?_⟩, ext_by⟩
  · exact (Blk.newAt (by simp)).alloc _
  · exact Blk.newAt (by simp)
theorem still_step : stepM stillL 0 ⟨⟨0, 0⟩, ⟨0, 0⟩, 1⟩ 0 ⟨⟨0, 10⟩, ⟨0, 3⟩, ⟨5, 5⟩, ⟨-2, 0⟩⟩ = ⟨⟨⟨4, 16⟩, ⟨-3, 4⟩, ⟨4, 6⟩, ⟨-3, 1⟩⟩, 0⟩ := by kernel_rfl
theorem still_possible : possibleB stillL 0 ⟨⟨0, 0⟩, ⟨0, 0⟩, 1⟩ 0 ⟨0, 0, 5, 0⟩ ⟨6, -1, 6, -1⟩ = true := by decide +kernel
set_option maxRecDepth 20000 in
set_option maxHeartbeats 2000000 in
theorem awake4_c (w : World) : Calls Tryz.prog 17 #[] w fun e w' => e = .returned (.bool true) ∧ Ext w w' := by
  go_enter Tryz.func17, Tryz.ntmps17
  go_wp2_with fail
  refine (still_c _).mono ?_
  rintro e w1 ⟨⟨A1, c1, rfl, hs1⟩, h1⟩
  go_wp2_with fail
  refine (gas_c _).mono ?_
  rintro e w2 ⟨rfl, h2⟩
  go_wp2_with fail
  refine (shown4_c _).mono ?_
  rintro e w3 ⟨rfl, h3⟩
  go_wp2_with fail
  refine (oStep_c _ _ _ _ _ _ stillL ⟨⟨0, 0⟩, ⟨0, 0⟩, 1⟩ ⟨⟨0, 10⟩, ⟨0, 3⟩, ⟨5, 5⟩, ⟨-2, 0⟩⟩ (Bodies.ext ext_by hs1)).mono ?_
  rw [still_step]
  rintro e w4 ⟨rfl, h4⟩
  go_wp2_with fail
  refine (still_c _).mono ?_
  rintro e w5 ⟨⟨A2, c2, rfl, hs5⟩, h5⟩
  go_wp2_with fail
  refine (gas_c _).mono ?_
  rintro e w6 ⟨rfl, h6⟩
  go_wp2_with fail
  refine (oPossible_c _ _ _ _ stillL ⟨⟨0, 0⟩, ⟨0, 0⟩, 1⟩ 0 0 0 5 0 6 (-1) 6 (-1) _ (Bodies.ext ext_by hs5)).mono ?_
  rw [still_possible]
  rintro e w7 ⟨rfl, h7⟩
  go_wp2_with fail
  go_ret
  exact ⟨rfl, ext_by⟩
end Go.Proofs.YtfniicgoeljmdaaGreat
