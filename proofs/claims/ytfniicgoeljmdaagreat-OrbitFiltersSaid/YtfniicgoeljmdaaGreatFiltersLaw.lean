/- Whether a state may follow another: the program. No condition. The chapter's examples that every law of the orbits asks. Draft. Boxes, drifts, slices of boxes among the arguments: what they read as. No condition. OrbitFilters, walked: it returns true. No condition. -/
import Derived.Test.YtfniicgoeljmdaaGreatFollows
import Derived.Test.YtfniicgoeljmdaaGreatOpen2
import Derived.Test.YtfniicgoeljmdaaGreatHullSet
import Derived.Test.YtfniicgoeljmdaaGreatRefRefine
import Derived.Test.YtfniicgoeljmdaaGreatDelete
namespace Go.Proofs.YtfniicgoeljmdaaGreat
open Go.RowKit
def possibleB (l : List Body) (home : Int) (d : Drf) (tick : Int) (s n : St) : Bool :=
  decide (wdErr l home d = 0) && (within tick 0 1073741823 && (decide (stErr s = 0) && (decide (stErr n = 0) && followsB l home d tick s n)))
set_option maxRecDepth 20000 in
set_option maxHeartbeats 2000000 in
theorem oPossible_c (A : Option Addr) (n c : Nat) (home : Int) (l : List Body) (d : Drf) (tick : Int) (x y u v x' y' u' v' : Int) (w : World) (hl : Bodies w A n l) :
    Calls Tryz.prog 18 #[.agg #[.slice A n c, .int .i64 home], .agg #[.int .i64 d.light.lo, .int .i64 d.light.hi, .int .i64 d.heat.lo, .int .i64 d.heat.hi, .int .i64 d.gas], .int .i64 tick, .agg #[.int .i64 x, .int .i64 y, .int .i64 u, .int .i64 v], .agg #[.int .i64 x', .int .i64 y', .int .i64 u', .int .i64 v']] w fun e w' =>
      e = .returned (.bool (possibleB l home d tick ⟨x, y, u, v⟩ ⟨x', y', u', v'⟩)) ∧ Ext w w' := by
  have HW := Lib.hid fun W (hW : Ext w W) => oCheckWorld_c A n c home l d.light.lo d.light.hi d.heat.lo d.heat.hi d.gas W (Bodies.ext hW hl)
  have HT := Lib.hid fun W => oWithin_c tick 0 1073741823 W
  have HS := Lib.hid fun W => oCheckState_c x y u v W
  have HN := Lib.hid fun W => oCheckState_c x' y' u' v' W
  have HF := Lib.hid fun (h1 : stErr ⟨x, y, u, v⟩ = 0) (h2 : stErr ⟨x', y', u', v'⟩ = 0) W (hW : Ext w W) => oFollows_c A n c home l d tick x y u v x' y' u' v' W (Bodies.ext hW hl) h1 h2
  unfold possibleB
  have hd : (⟨⟨d.light.lo, d.light.hi⟩, ⟨d.heat.lo, d.heat.hi⟩, d.gas⟩ : Drf) = d := rfl
  rw [hd] at HW
  generalize wdErr l home d = E at *
  generalize within tick 0 1073741823 = T at *
  generalize stErr ⟨x, y, u, v⟩ = S at *
  generalize stErr ⟨x', y', u', v'⟩ = N at *
  generalize followsB l home d tick ⟨x, y, u, v⟩ ⟨x', y', u', v'⟩ = F at *
  obtain ⟨⟨ll, lh⟩, ⟨hl', hh⟩, g⟩ := d
  dsimp only at HW HF ⊢
  clear hl hd
  go_enter Tryz.func18, Tryz.ntmps18
  go_wp2_with fail
  refine (HW.out _ (by (repeat' (first | exact Ext.refl _ | assumption | apply Ext.alloc | apply Ext.drew | refine Ext.set ?_ (by dsimp only; omega) _ | refine Ext.trans ?_ (by assumption))))).mono ?_
  rintro e w1 ⟨rfl, h1⟩
  have W5 : Blk w1 (w.heap.size) 24 #[.slice A n c, .int .i64 home] := ((((Blk.newAt (by simp)).alloc _).alloc _).alloc _).ext h1
  have W6 : Blk w1 (w.heap.size + 1) 28 #[.int .i64 ll, .int .i64 lh, .int .i64 hl', .int .i64 hh, .int .i64 g] := (((Blk.newAt (by simp)).alloc _).alloc _).ext h1
  have F7 : Blk w1 (w.heap.size + 1 + 1) 30 #[.int .i64 x, .int .i64 y, .int .i64 u, .int .i64 v] := ((Blk.newAt (by simp)).alloc _).ext h1
  have F8 : Blk w1 (w.heap.size + 1 + 1 + 1) 30 #[.int .i64 x', .int .i64 y', .int .i64 u', .int .i64 v'] := (Blk.newAt (by simp)).ext h1
  have FE : Ext w w1 := by (repeat' (first | exact Ext.refl _ | assumption | apply Ext.alloc | apply Ext.drew | refine Ext.set ?_ (by dsimp only; omega) _ | refine Ext.trans ?_ (by assumption)))
  clear h1
  have c_W5 := W5.cell; have f_W5 := W5.frozen; have l_W5 := W5.lt; have c_W6 := W6.cell; have f_W6 := W6.frozen; have l_W6 := W6.lt; have c_F7 := F7.cell; have f_F7 := F7.frozen; have l_F7 := F7.lt; have c_F8 := F8.cell; have f_F8 := F8.frozen; have l_F8 := F8.lt
  by_cases hE : E = 0
  · subst hE
    go_wp2_with fail
    refine (HT.out _).mono ?_
    rintro e w2 ⟨rfl, h2⟩
    have A2 := W5.ext h2
    have B2 := W6.ext h2
    have C2 := F7.ext h2
    have D2 := F8.ext h2
    have E2 := FE.trans h2
    clear c_W5 f_W5 l_W5 c_W6 f_W6 l_W6 c_F7 f_F7 l_F7 c_F8 f_F8 l_F8
    clear h2 W5 W6 F7 F8 FE
    have c_A2 := A2.cell; have f_A2 := A2.frozen; have l_A2 := A2.lt; have c_B2 := B2.cell; have f_B2 := B2.frozen; have l_B2 := B2.lt; have c_C2 := C2.cell; have f_C2 := C2.frozen; have l_C2 := C2.lt; have c_D2 := D2.cell; have f_D2 := D2.frozen; have l_D2 := D2.lt
    cases T
    · go_wp2_with fail
      go_ret
      exact ⟨ret_b (by simp []), E2⟩
    · go_wp2_with fail
      refine (HS.out _).mono ?_
      rintro e w3 ⟨rfl, h3⟩
      have A3 := A2.ext h3
      have B3 := B2.ext h3
      have C3 := C2.ext h3
      have D3 := D2.ext h3
      have E3 := E2.trans h3
      clear c_A2 f_A2 l_A2 c_B2 f_B2 l_B2 c_C2 f_C2 l_C2 c_D2 f_D2 l_D2
      clear h3 A2 B2 C2 D2 E2
      have c_A3 := A3.cell; have f_A3 := A3.frozen; have l_A3 := A3.lt; have c_B3 := B3.cell; have f_B3 := B3.frozen; have l_B3 := B3.lt; have c_C3 := C3.cell; have f_C3 := C3.frozen; have l_C3 := C3.lt; have c_D3 := D3.cell; have f_D3 := D3.frozen; have l_D3 := D3.lt
      by_cases hS : S = 0
      · subst hS
        go_wp2_with fail
        refine (HN.out _).mono ?_
        rintro e w4 ⟨rfl, h4⟩
        have A4 := A3.ext h4
        have B4 := B3.ext h4
        have C4 := C3.ext h4
        have D4 := D3.ext h4
        have E4 := E3.trans h4
        clear c_A3 f_A3 l_A3 c_B3 f_B3 l_B3 c_C3 f_C3 l_C3 c_D3 f_D3 l_D3
        clear h4 A3 B3 C3 D3 E3
        have c_A4 := A4.cell; have f_A4 := A4.frozen; have l_A4 := A4.lt; have c_B4 := B4.cell; have f_B4 := B4.frozen; have l_B4 := B4.lt; have c_C4 := C4.cell; have f_C4 := C4.frozen; have l_C4 := C4.lt; have c_D4 := D4.cell; have f_D4 := D4.frozen; have l_D4 := D4.lt
        by_cases hN : N = 0
        · subst hN
          go_wp2_with fail
          refine (HF.out (by first | trivial | rfl) (by first | trivial | rfl) _ E4).mono ?_
          rintro e w5 ⟨rfl, h5⟩
          have E5 := E4.trans h5
          go_wp2_with fail
          go_ret
          exact ⟨ret_b (by simp), E5⟩
        · go_wp2_with fail
          go_ret
          exact ⟨ret_b (by simp), E4⟩
      · go_wp2_with fail
        go_ret
        exact ⟨ret_b (by simp), E3⟩
  · go_wp2_with fail
    go_ret
    exact ⟨ret_b (by simp [hE]), FE⟩
end Go.Proofs.YtfniicgoeljmdaaGreat

namespace Go.Proofs.YtfniicgoeljmdaaGreat
open Go.RowKit

theorem gas_c (w : World) :
    Calls Tryz.prog 59 #[] w fun e w' => e = .returned (.agg #[.int .i64 0, .int .i64 0, .int .i64 0, .int .i64 0, .int .i64 1]) ∧ Ext w w' := by
  go_enter Tryz.func59, Tryz.ntmps59
  go_wp2_with fail
  (try simp only [Exit.inBlock, Exit.then]); apply bodyPost_ret; (focus (simp only [results, Tryz.results59]; go_simp; try rfl)); rfl
  exact ⟨rfl, by (repeat' (first | exact Ext.refl _ | assumption | apply Ext.alloc | apply Ext.drew | refine Ext.set ?_ (by dsimp only; omega) _ | refine Ext.trans ?_ (by assumption)))⟩
theorem shown4_c (w : World) :
    Calls Tryz.prog 60 #[] w fun e w' => e = .returned (.agg #[.int .i64 0, .int .i64 10, .int .i64 0, .int .i64 3, .int .i64 5, .int .i64 5, .int .i64 (-2), .int .i64 0]) ∧ Ext w w' := by
  go_enter Tryz.func60, Tryz.ntmps60
  go_wp2_with fail
  (try simp only [Exit.inBlock, Exit.then]); apply bodyPost_ret; (focus (simp only [results, Tryz.results60]; go_simp; try rfl)); rfl
  exact ⟨rfl, by (repeat' (first | exact Ext.refl _ | assumption | apply Ext.alloc | apply Ext.drew | refine Ext.set ?_ (by dsimp only; omega) _ | refine Ext.trans ?_ (by assumption)))⟩
def stillL : List Body := [⟨0, 0, [⟨0, 0⟩]⟩]
theorem one4 {α : Type} {a : α} {P : α → Nat → Prop} (h0 : P a 0) : ∀ k (h : k < [a].length), P ([a][k]) k
  | 0, _ => h0
theorem still_bodies {w : World} {b1 b3 : Nat} {t1 t3 : TypeId} (h1 : Blk w b1 t1 #[.int .i64 0, .int .i64 0]) (h3 : Blk w b3 t3 #[.int .i64 0, .int .i64 0, .slice (some ⟨b1, 0, none⟩) 1 1]) :
    Bodies w (some ⟨b3, 0, none⟩) 1 stillL :=
  ⟨rfl, by decide, .inr ⟨b3, 0, rfl, one4 (P := fun x k => bodyAt w x b3 (0 + k * 3)) ⟨h3.cell 0, h3.cell 1, _, _, _, h3.cell 2, ⟨rfl, by decide, .inr ⟨b1, 0, rfl, one4 (P := fun x k => vecAt w x b1 (0 + k * 2)) ⟨h1.cell 0, h1.cell 1⟩⟩⟩⟩⟩⟩
set_option maxHeartbeats 1000000 in
theorem still_c (w : World) :
    Calls Tryz.prog 58 #[] w fun e w' => (∃ A c, e = .returned (.agg #[.slice A 1 c, .int .i64 0]) ∧ Bodies w' A 1 stillL) ∧ Ext w w' := by
  go_enter Tryz.func58, Tryz.ntmps58
  go_wp2_with fail
  (try simp only [Exit.inBlock, Exit.then]); apply bodyPost_ret; (focus (simp only [results, Tryz.results58]; go_simp; try rfl)); rfl
  refine ⟨⟨_, _, rfl, still_bodies (t1 := 85) (t3 := 97) (b1 := w.heap.size + 1) (b3 := w.heap.size + 1 + 1) ?_ ?_⟩, by (repeat' (first | exact Ext.refl _ | assumption | apply Ext.alloc | apply Ext.drew | refine Ext.set ?_ (by dsimp only; omega) _ | refine Ext.trans ?_ (by assumption)))⟩
  · exact (Blk.newAt (by simp)).alloc _
  · exact Blk.newAt (by simp)
theorem still_step : stepM stillL 0 ⟨⟨0, 0⟩, ⟨0, 0⟩, 1⟩ 0 ⟨⟨0, 10⟩, ⟨0, 3⟩, ⟨5, 5⟩, ⟨-2, 0⟩⟩ = ⟨⟨⟨4, 16⟩, ⟨-3, 4⟩, ⟨4, 6⟩, ⟨-3, 1⟩⟩, 0⟩ := by kernel_rfl
theorem still_possible : possibleB stillL 0 ⟨⟨0, 0⟩, ⟨0, 0⟩, 1⟩ 0 ⟨0, 0, 5, 0⟩ ⟨6, -1, 6, -1⟩ = true := by decide +kernel
set_option maxRecDepth 20000 in
set_option maxHeartbeats 2000000 in
theorem awake4_c (w : World) : Calls Tryz.prog 17 #[] w fun e w' => e = .returned (.bool true) ∧ Ext w w' := by
  go_enter Tryz.func17, Tryz.ntmps17
  go_wp2_with fail
  refine (still_c _).mono ?_
  rintro e w1 ⟨⟨A1, c1, rfl, hs1⟩, h1⟩
  go_wp2_with fail
  refine (gas_c _).mono ?_
  rintro e w2 ⟨rfl, h2⟩
  go_wp2_with fail
  refine (shown4_c _).mono ?_
  rintro e w3 ⟨rfl, h3⟩
  go_wp2_with fail
  refine (oStep_c _ _ _ _ _ _ stillL ⟨⟨0, 0⟩, ⟨0, 0⟩, 1⟩ ⟨⟨0, 10⟩, ⟨0, 3⟩, ⟨5, 5⟩, ⟨-2, 0⟩⟩ (Bodies.ext (by (repeat' (first | exact Ext.refl _ | assumption | apply Ext.alloc | apply Ext.drew | refine Ext.set ?_ (by dsimp only; omega) _ | refine Ext.trans ?_ (by assumption)))) hs1)).mono ?_
  rw [still_step]
  rintro e w4 ⟨rfl, h4⟩
  go_wp2_with fail
  refine (still_c _).mono ?_
  rintro e w5 ⟨⟨A2, c2, rfl, hs5⟩, h5⟩
  go_wp2_with fail
  refine (gas_c _).mono ?_
  rintro e w6 ⟨rfl, h6⟩
  go_wp2_with fail
  refine (oPossible_c _ _ _ _ stillL ⟨⟨0, 0⟩, ⟨0, 0⟩, 1⟩ 0 0 0 5 0 6 (-1) 6 (-1) _ (Bodies.ext (by (repeat' (first | exact Ext.refl _ | assumption | apply Ext.alloc | apply Ext.drew | refine Ext.set ?_ (by dsimp only; omega) _ | refine Ext.trans ?_ (by assumption)))) hs5)).mono ?_
  rw [still_possible]
  rintro e w7 ⟨rfl, h7⟩
  go_wp2_with fail
  go_ret
  exact ⟨rfl, by (repeat' (first | exact Ext.refl _ | assumption | apply Ext.alloc | apply Ext.drew | refine Ext.set ?_ (by dsimp only; omega) _ | refine Ext.trans ?_ (by assumption)))⟩
end Go.Proofs.YtfniicgoeljmdaaGreat

namespace Go.Proofs.YtfniicgoeljmdaaGreat
open Go.RowKit Go.ChangeShapes Go.WideShapes Go.ChangeAt

section
variable {H : Type} {enc : TypeId × Value → H} {w : World} {base : Nat} {spare : Nat → Bool} {held : Bool}
theorem cells_box : Tryz.prog.cellsOf 38 = 8 := by kernel_rfl
theorem len8 {α : Type} {cs : List α} (h : cs.length = 8) : ∃ a0 a1 a2 a3 a4 a5 a6 a7, cs = [a0, a1, a2, a3, a4, a5, a6, a7] := by
  match cs, h with
  | [a0, a1, a2, a3, a4, a5, a6, a7], _ => exact ⟨a0, a1, a2, a3, a4, a5, a6, a7, rfl⟩
theorem open_box {fuel : Nat} {cs : List Value} {x : DataW H × List MemPlace} (h : DataW.trod enc Tryz.prog w base spare held fuel 38 cs = some x) : ∃ b : Bx, cs = [.int .i64 b.x.lo, .int .i64 b.x.hi, .int .i64 b.y.lo, .int .i64 b.y.hi, .int .i64 b.u.lo, .int .i64 b.u.hi, .int .i64 b.v.lo, .int .i64 b.v.hi] := by
  obtain ⟨hl, n, hf⟩ := open_field Tryz.underlying38 h
  obtain ⟨a0, a1, a2, a3, a4, a5, a6, a7, rfl⟩ := len8 (hl.trans cells_box)
  obtain ⟨_, h0⟩ := hf 0 _ 0 _ rfl cells_span
  obtain ⟨p0, e0⟩ := open_span (show DataW.trod enc Tryz.prog w base spare held n 26 [a0, a1] = some _ from h0)
  injection e0 with e0a e0b; injection e0b with e0b; subst e0a e0b
  obtain ⟨_, h1⟩ := hf 1 _ 2 _ rfl cells_span
  obtain ⟨p1, e1⟩ := open_span (show DataW.trod enc Tryz.prog w base spare held n 26 [a2, a3] = some _ from h1)
  injection e1 with e1a e1b; injection e1b with e1b; subst e1a e1b
  obtain ⟨_, h2⟩ := hf 2 _ 4 _ rfl cells_span
  obtain ⟨p2, e2⟩ := open_span (show DataW.trod enc Tryz.prog w base spare held n 26 [a4, a5] = some _ from h2)
  injection e2 with e2a e2b; injection e2b with e2b; subst e2a e2b
  obtain ⟨_, h3⟩ := hf 3 _ 6 _ rfl cells_span
  obtain ⟨p3, e3⟩ := open_span (show DataW.trod enc Tryz.prog w base spare held n 26 [a6, a7] = some _ from h3)
  injection e3 with e3a e3b; injection e3b with e3b; subst e3a e3b
  exact ⟨⟨⟨p0.x, p0.y⟩, ⟨p1.x, p1.y⟩, ⟨p2.x, p2.y⟩, p3.x, p3.y⟩, rfl⟩
end
section
variable {H : Type} {enc : TypeId × Value → H} {w : World} {base : Nat}
instance : Inhabited Bx := ⟨zeroB⟩
theorem elt_box (n b o : Nat) (cs : List Value) (y : DataW H × List MemPlace) (hc : ∀ i, i < 8 → w.cell? ⟨b, o + i, none⟩ = cs[i]?) (_ : cs.length = 8) (h : DataW.trod enc Tryz.prog w base (fun _ => true) true n 38 cs = some y) : ∃ x, bxAt w x b o := by
  obtain ⟨p, rfl⟩ := open_box h
  exact ⟨p, hc 0 (by omega), hc 1 (by omega), hc 2 (by omega), hc 3 (by omega), hc 4 (by omega), hc 5 (by omega), hc 6 (by omega), hc 7 (by omega)⟩
theorem open_cap {t e : TypeId} {fuel : Nat} {A : Option Addr} {n c : Nat} {x : DataW H × List MemPlace} (ht : Tryz.prog.underlying t = some (.slice e)) (h : DataW.trod enc Tryz.prog w base (fun _ => true) true fuel t [.slice A n c] = some x) : n ≤ c := by
  rcases DataW.trod_slice ht h with ⟨h0, _⟩ | ⟨a, len, cap, elems, rest, m, _, h1, _, _, hl, _⟩
  · injection h0 with h0 _
    injection h0 with h1 h2 h3
    omega
  · injection h1 with h0 _
    injection h0 with h1 h2 h3
    omega
theorem open_boxes {fuel : Nat} {cs : List Value} {x : DataW H × List MemPlace} (h : DataW.trod enc Tryz.prog w base (fun _ => true) true fuel 39 cs = some x) : ∃ A n c l, cs = [.slice A n c] ∧ Bxs w A n l ∧ n ≤ c := by
  obtain ⟨A, n, c, l, rfl, hl⟩ := open_sl (by omega) Tryz.underlying39 cells_box elt_box h
  exact ⟨A, n, c, l, rfl, hl, open_cap Tryz.underlying39 h⟩
end
end Go.Proofs.YtfniicgoeljmdaaGreat

namespace Go.Proofs.YtfniicgoeljmdaaGreat
open Go.RowKit Go.ChangeShapes Go.WideShapes Go.ChangeAt

set_option maxRecDepth 20000 in
set_option maxHeartbeats 4000000 in
theorem OrbitFilters_c (A1 : Option Addr) (n1 c1 : Nat) (home : Int) (A2 : Option Addr) (n2 c2 : Nat) (A3 : Option Addr) (n3 c3 : Nat) (s : Sky) (tick : Int) (A : Option Addr) (n c : Nat) (l : List Bx) (B : Option Addr) (m d : Nat) (r : List Sight) (N : Int) (w : World) (hs : IsSky w A1 n1 home A2 n2 A3 n3 s) (hl : Bxs w A n l) (_ : n ≤ c) (hr : Sights w B m r) :
    Calls Tryz.prog 8 #[.agg #[.slice A1 n1 c1, .int .i64 home, .slice A2 n2 c2, .slice A3 n3 c3], .int .i64 tick, .slice A n c, .slice B m d, .int .i64 N] w fun e w' => e = .returned (.bool true) ∧ Ext w w' := by
  have hn := hl.le
  have hm := hr.le
  have HA := Lib.hid fun W => awake4_c W
  have HB := Lib.hid fun W (hW : Ext w W) => BigSky_c A1 n1 c1 home A2 n2 c2 A3 n3 c3 s W (hs.ext hW)
  have HLn := Lib.hid hl.len
  have HL := Lib.hid fun W (hW : Ext w W) => Bxs.ext hW hl
  have HF := Lib.hid fun A' c' W (hW : Ext w W) (h : Bxs W A' n l) => oFilter_c A1 n1 c1 home A2 n2 c2 A3 n3 c3 s tick A' n c' l B m d r W (hs.ext hW) h (Sights.ext hW hr)
  have GF := Lib.hid fun W (hW : Ext w W) => rFilter_c A1 n1 c1 home A2 n2 c2 A3 n3 c3 s tick A n c l B m d r W (hs.ext hW) (Bxs.ext hW hl) (Sights.ext hW hr)
  have HR := Lib.hid fun A' c' W (hW : Ext w W) (h : Bxs W A' n l) => oRefine_c A1 n1 c1 home A2 n2 c2 A3 n3 c3 s tick A' n c' l B m d r N W (hs.ext hW) h (Sights.ext hW hr)
  have GR := Lib.hid fun W (hW : Ext w W) => rRefine_c A1 n1 c1 home A2 n2 c2 A3 n3 c3 s tick A n c l B m d r N W (hs.ext hW) (Bxs.ext hW hl) (Sights.ext hW hr)
  have HS := Lib.hid fun A' n' c' B' m' d' l' W => SameBoxes_c A' n' c' B' m' d' l' W
  generalize bigSky s = G at *
  by_cases hbig : G = true ∨ 40 < n ∨ 66 < m ∨ (6 < N ∧ N ≤ 20)
  · rcases (show G = true ∨ (G = false ∧ 40 < n) ∨ (G = false ∧ n ≤ 40 ∧ 66 < m) ∨ (G = false ∧ n ≤ 40 ∧ m ≤ 66 ∧ 6 < N ∧ N ≤ 20) by cases G <;> simp at hbig ⊢ <;> omega) with rfl | ⟨rfl, h1⟩ | ⟨rfl, h1, h2⟩ | ⟨rfl, h1, h2, h3, h4⟩
    all_goals clear hbig HF GF HR GR HS hs hl hr
    all_goals go_enter Tryz.func8, Tryz.ntmps8
    all_goals go_wp2_with fail
    all_goals refine (HB.out _ (by (repeat' (first | exact Ext.refl _ | assumption | apply Ext.alloc | apply Ext.drew | refine Ext.set ?_ (by dsimp only; omega) _ | refine Ext.trans ?_ (by assumption))))).mono ?_
    all_goals rintro e w1 ⟨rfl, h1⟩
    all_goals obtain ⟨hc_w1, hf_w1, hz_w1⟩ := bcell h1; (repeat (first | rw [World.size_alloc] at hz_w1 | rw [World.size_drew] at hz_w1 | rw [World.size_setCell] at hz_w1)); (try (have : w.heap.size < w1.heap.size := (by omega))); (try (have : w.heap.size + 1 < w1.heap.size := (by omega))); (try (have : w.heap.size + 1 + 1 < w1.heap.size := (by omega))); (try (have : w.heap.size + 1 + 1 + 1 < w1.heap.size := (by omega))); (try (have : w.heap.size + 1 + 1 + 1 + 1 < w1.heap.size := (by omega)))
    all_goals go_wp2_with fail
    all_goals refine (HA.out _).mono ?_
    all_goals rintro e w2 ⟨rfl, h2⟩
    all_goals obtain ⟨hc_w2, hf_w2, hz_w2⟩ := bcell h2; (repeat (first | rw [World.size_alloc] at hz_w2 | rw [World.size_drew] at hz_w2 | rw [World.size_setCell] at hz_w2)); (try (have : w.heap.size < w2.heap.size := (by omega))); (try (have : w.heap.size + 1 < w2.heap.size := (by omega))); (try (have : w.heap.size + 1 + 1 < w2.heap.size := (by omega))); (try (have : w.heap.size + 1 + 1 + 1 < w2.heap.size := (by omega))); (try (have : w.heap.size + 1 + 1 + 1 + 1 < w2.heap.size := (by omega)))
    all_goals go_wp2_with fail
    all_goals go_ret
    all_goals exact ⟨rfl, by (repeat' (first | exact Ext.refl _ | assumption | apply Ext.alloc | apply Ext.drew | refine Ext.set ?_ (by dsimp only; omega) _ | refine Ext.trans ?_ (by assumption)))⟩
  · obtain ⟨rfl, h1, h2, h3⟩ : G = false ∧ n ≤ 40 ∧ m ≤ 66 ∧ (N ≤ 6 ∨ 20 < N) := by cases G <;> simp at hbig ⊢ <;> omega
    have HO := Lib.hid fun W (hW : Ext w W) => OwnBoxes_c A n c l W (Bxs.ext hW hl) (by omega)
    generalize askErr s tick l r = e1 at *
    generalize refErr s tick l r N = e2 at *
    generalize (if e1 = 0 then filtL s tick r l else []) = L1 at *
    generalize refL s tick l r N = L2 at *
    clear hbig hs hl hr
    rcases (show N ≤ 6 ∨ (6 < N ∧ 20 < N) by omega) with h4 | ⟨h4, h5⟩
    all_goals clear h3
    all_goals go_enter Tryz.func8, Tryz.ntmps8
    all_goals go_wp2_with fail
    all_goals refine (HB.out _ (by (repeat' (first | exact Ext.refl _ | assumption | apply Ext.alloc | apply Ext.drew | refine Ext.set ?_ (by dsimp only; omega) _ | refine Ext.trans ?_ (by assumption))))).mono ?_
    all_goals rintro e V1 ⟨rfl, hV1⟩
    all_goals have B5 : Blk V1 w.heap.size 53 #[.slice A1 n1 c1, .int .i64 home, .slice A2 n2 c2, .slice A3 n3 c3] := (Blk.new w _ _).ext hV1
    all_goals have E : Ext w V1 := (Ext.alloc0 _ _).trans hV1
    all_goals clear hV1
    all_goals have c_B5 := B5.cell; have f_B5 := B5.frozen; have l_B5 := B5.lt
    all_goals go_wp2_with fail
    all_goals refine (HO.out _ E).mono ?_
    all_goals rintro e V2 ⟨v2, rfl, ho2, hV2⟩
    all_goals obtain ⟨A', c', rfl, hs2, _⟩ := ho2.cap
    all_goals rw [← HLn.out] at hs2 ⊢
    all_goals clear c_B5 f_B5 l_B5
    all_goals replace B5 := B5.ext hV2
    all_goals replace E := E.trans hV2
    all_goals have HOW := Lib.hid fun W (hW : Ext V2 W) => Bxs.ext hW hs2
    all_goals clear hV2 ho2 hs2 HO
    all_goals have c_B5 := B5.cell; have f_B5 := B5.frozen; have l_B5 := B5.lt
    all_goals go_wp2_with fail
    all_goals refine (HF.out A' c' _ E (HOW.out _ (by (repeat' (first | exact Ext.refl _ | assumption | apply Ext.alloc | apply Ext.drew | refine Ext.set ?_ (by dsimp only; omega) _ | refine Ext.trans ?_ (by assumption)))))).mono ?_
    all_goals rintro e V3 ⟨v3, rfl, ho3, hV3⟩
    all_goals obtain ⟨A3', c3', rfl, hs3, _⟩ := ho3.cap
    all_goals clear c_B5 f_B5 l_B5
    all_goals replace B5 := B5.ext hV3
    all_goals replace E := E.trans hV3
    all_goals have HOW3 := Lib.hid fun W (hW : Ext V3 W) => HOW.out W (hV3.trans hW)
    all_goals have HP3 := Lib.hid fun W (hW : Ext V3 W) => Bxs.ext hW hs3
    all_goals clear hV3 ho3 hs3 HOW
    all_goals have c_B5 := B5.cell; have f_B5 := B5.frozen; have l_B5 := B5.lt
    all_goals go_wp2_with fail
    all_goals refine (GF.out _ E).mono ?_
    all_goals rintro e V4 ⟨v4, rfl, ho4, hV4⟩
    all_goals obtain ⟨A4, c4, rfl, hs4, _⟩ := ho4.cap
    all_goals clear c_B5 f_B5 l_B5
    all_goals replace B5 := B5.ext hV4
    all_goals replace E := E.trans hV4
    all_goals have HOW4 := Lib.hid fun W (hW : Ext V4 W) => HOW3.out W (hV4.trans hW)
    all_goals have HP4 := Lib.hid fun W (hW : Ext V4 W) => HP3.out W (hV4.trans hW)
    all_goals have HQ4 := Lib.hid fun W (hW : Ext V4 W) => Bxs.ext hW hs4
    all_goals clear hV4 ho4 hs4 HOW3 HP3
    all_goals have c_B5 := B5.cell; have f_B5 := B5.frozen; have l_B5 := B5.lt
    all_goals go_wp2_with fail
    all_goals refine (HR.out A' c' _ E (HOW4.out _ (by (repeat' (first | exact Ext.refl _ | assumption | apply Ext.alloc | apply Ext.drew | refine Ext.set ?_ (by dsimp only; omega) _ | refine Ext.trans ?_ (by assumption)))))).mono ?_
    all_goals rintro e V5 ⟨v5, rfl, ho5, hV5⟩
    all_goals obtain ⟨A5, c5, rfl, hs5, _⟩ := ho5.cap
    all_goals clear c_B5 f_B5 l_B5
    all_goals replace B5 := B5.ext hV5
    all_goals replace E := E.trans hV5
    all_goals have HOW5 := Lib.hid fun W (hW : Ext V5 W) => HOW4.out W (hV5.trans hW)
    all_goals have HP5 := Lib.hid fun W (hW : Ext V5 W) => HP4.out W (hV5.trans hW)
    all_goals have HQ5 := Lib.hid fun W (hW : Ext V5 W) => HQ4.out W (hV5.trans hW)
    all_goals have HX5 := Lib.hid fun W (hW : Ext V5 W) => Bxs.ext hW hs5
    all_goals clear hV5 ho5 hs5 HOW4 HP4 HQ4
    all_goals have c_B5 := B5.cell; have f_B5 := B5.frozen; have l_B5 := B5.lt
    all_goals go_wp2_with fail
    all_goals refine (GR.out _ E).mono ?_
    all_goals rintro e V6 ⟨v6, rfl, ho6, hV6⟩
    all_goals obtain ⟨A6, c6, rfl, hs6, _⟩ := ho6.cap
    all_goals clear c_B5 f_B5 l_B5
    all_goals replace E := E.trans hV6
    all_goals have Q1 := Lib.hid fun W (hW : Ext V6 W) => HS.out _ _ c3' _ _ c4 _ W (HP5.out W (hV6.trans hW)) (HQ5.out W (hV6.trans hW))
    all_goals have Q2 := Lib.hid fun W (hW : Ext V6 W) => HS.out _ _ c5 _ _ c6 _ W (HX5.out W (hV6.trans hW)) (Bxs.ext hW hs6)
    all_goals have Q3 := Lib.hid fun W (hW : Ext V6 W) => HS.out _ _ c' _ _ c _ W (HOW5.out W (hV6.trans hW)) (HL.out W (E.trans hW))
    all_goals clear hV6 ho6 hs6 HOW5 HP5 HQ5 HX5 B5 HF GF HR GR HB HS HL
    all_goals go_wp2_with fail
    all_goals refine (Q1.out _ (by (repeat' (first | exact Ext.refl _ | assumption | apply Ext.alloc | apply Ext.drew | refine Ext.set ?_ (by dsimp only; omega) _ | refine Ext.trans ?_ (by assumption))))).mono ?_
    all_goals rintro e w7 ⟨rfl, h7⟩
    all_goals obtain ⟨hc_w7, hf_w7, hz_w7⟩ := bcell h7; (repeat (first | rw [World.size_alloc] at hz_w7 | rw [World.size_drew] at hz_w7 | rw [World.size_setCell] at hz_w7)); (try (have : w.heap.size < w7.heap.size := (by omega))); (try (have : w.heap.size + 1 < w7.heap.size := (by omega))); (try (have : w.heap.size + 1 + 1 < w7.heap.size := (by omega))); (try (have : w.heap.size + 1 + 1 + 1 < w7.heap.size := (by omega))); (try (have : w.heap.size + 1 + 1 + 1 + 1 < w7.heap.size := (by omega)))
    all_goals go_wp2_with fail
    all_goals refine (Q2.out _ (by (repeat' (first | exact Ext.refl _ | assumption | apply Ext.alloc | apply Ext.drew | refine Ext.set ?_ (by dsimp only; omega) _ | refine Ext.trans ?_ (by assumption))))).mono ?_
    all_goals rintro e w8 ⟨rfl, h8⟩
    all_goals obtain ⟨hc_w8, hf_w8, hz_w8⟩ := bcell h8; (repeat (first | rw [World.size_alloc] at hz_w8 | rw [World.size_drew] at hz_w8 | rw [World.size_setCell] at hz_w8)); (try (have : w.heap.size < w8.heap.size := (by omega))); (try (have : w.heap.size + 1 < w8.heap.size := (by omega))); (try (have : w.heap.size + 1 + 1 < w8.heap.size := (by omega))); (try (have : w.heap.size + 1 + 1 + 1 < w8.heap.size := (by omega))); (try (have : w.heap.size + 1 + 1 + 1 + 1 < w8.heap.size := (by omega)))
    all_goals go_wp2_with fail
    all_goals refine (Q3.out _ (by (repeat' (first | exact Ext.refl _ | assumption | apply Ext.alloc | apply Ext.drew | refine Ext.set ?_ (by dsimp only; omega) _ | refine Ext.trans ?_ (by assumption))))).mono ?_
    all_goals rintro e w9 ⟨rfl, h9⟩
    all_goals obtain ⟨hc_w9, hf_w9, hz_w9⟩ := bcell h9; (repeat (first | rw [World.size_alloc] at hz_w9 | rw [World.size_drew] at hz_w9 | rw [World.size_setCell] at hz_w9)); (try (have : w.heap.size < w9.heap.size := (by omega))); (try (have : w.heap.size + 1 < w9.heap.size := (by omega))); (try (have : w.heap.size + 1 + 1 < w9.heap.size := (by omega))); (try (have : w.heap.size + 1 + 1 + 1 < w9.heap.size := (by omega))); (try (have : w.heap.size + 1 + 1 + 1 + 1 < w9.heap.size := (by omega)))
    all_goals go_wp2_with fail
    all_goals refine (HA.out _).mono ?_
    all_goals rintro e w10 ⟨rfl, h10⟩
    all_goals obtain ⟨hc_w10, hf_w10, hz_w10⟩ := bcell h10; (repeat (first | rw [World.size_alloc] at hz_w10 | rw [World.size_drew] at hz_w10 | rw [World.size_setCell] at hz_w10)); (try (have : w.heap.size < w10.heap.size := (by omega))); (try (have : w.heap.size + 1 < w10.heap.size := (by omega))); (try (have : w.heap.size + 1 + 1 < w10.heap.size := (by omega))); (try (have : w.heap.size + 1 + 1 + 1 < w10.heap.size := (by omega))); (try (have : w.heap.size + 1 + 1 + 1 + 1 < w10.heap.size := (by omega)))
    all_goals go_wp2_with fail
    all_goals go_ret
    all_goals exact ⟨rfl, by (repeat' (first | exact Ext.refl _ | assumption | apply Ext.alloc | apply Ext.drew | refine Ext.set ?_ (by dsimp only; omega) _ | refine Ext.trans ?_ (by assumption)))⟩
end Go.Proofs.YtfniicgoeljmdaaGreat
