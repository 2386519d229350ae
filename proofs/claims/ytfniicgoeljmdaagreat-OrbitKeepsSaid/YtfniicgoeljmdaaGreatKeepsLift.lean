/- OrbitKeeps, walked: it returns true. No condition. OrbitKeeps, lifted to what the statement says of a run. No condition. -/
import Derived.Test.YtfniicgoeljmdaaGreatKeepsTwo
import Derived.Test.YtfniicgoeljmdaaGreatSightOf
import Derived.Test.YtfniicgoeljmdaaGreatAwakeFour
import Derived.Test.YtfniicgoeljmdaaGreatOwnBoxes
import Derived.Test.YtfniicgoeljmdaaGreatOpen2
import Derived.Test.YtfniicgoeljmdaaGreatLaw
namespace Go.Proofs.YtfniicgoeljmdaaGreat
open Go.RowKit

set_option maxRecDepth 20000 in
set_option maxHeartbeats 8000000 in
theorem OrbitKeeps_c (A : Option Addr) (n c : Nat) (l : List Int) (N R : Int) (w : World) (hl : Ints w A n l) :
    Calls Tryz.prog 13 #[.slice A n c, .int .i64 N, .int .i64 R] w fun e w' => e = .returned (.bool true) ∧ Ext w w' := by
  have HA := Lib.hid fun W => awake4_c W
  have HSB := Lib.hid fun A' n' c' B' m' d' l' W => SameBoxes_c A' n' c' B' m' d' l' W
  obtain ⟨is_, his, hs0, hs1, hs2⟩ := info_parts info_sight
  go_enter Tryz.func13, Tryz.ntmps13
  go_wp2_with fail
  refine (made4_c A n c l _ hl).mono ?_
  rintro e w1 ⟨g, A1, n1, c1, home, A2, n2, c2, A3, n3, c3, s, ll, lh, el, eh, gs, b, x, y, u, v, bs, rfl, hF, hsky, hms, _, hsm, hx0⟩
  have E1 := hF.ext
  have r1 := hF.ring
  have HSM := Lib.hid hsm
  have HX0 := Lib.hid hx0
  have hpx : -4000 ≤ x ∧ x ≤ 4000 := by unfold smallB at hsm; unfold inBx at hx0; dsimp only at hx0; omega
  have hpy : -4000 ≤ y ∧ y ≤ 4000 := by unfold smallB at hsm; unfold inBx at hx0; dsimp only at hx0; omega
  have HMS := Lib.hid hms
  clear hsm hx0 hF hl
  go_wp2_with fail
  obtain ⟨V, hV⟩ : ∃ W, W = ((((w1.alloc (.cells #[.slice A1 n1 c1, .int .i64 home, .slice A2 n2 c2, .slice A3 n3 c3] 53)).alloc (.cells #[.int .i64 ll, .int .i64 lh, .int .i64 el, .int .i64 eh, .int .i64 gs] 28)).alloc (.cells #[.int .i64 b.x.lo, .int .i64 b.x.hi, .int .i64 b.y.lo, .int .i64 b.y.hi, .int .i64 b.u.lo, .int .i64 b.u.hi, .int .i64 b.v.lo, .int .i64 b.v.hi] 38)).alloc (.cells #[.int .i64 x, .int .i64 y, .int .i64 u, .int .i64 v] 30)) := ⟨_, rfl⟩
  rw [← hV]
  obtain ⟨z, hz⟩ : ∃ z, z = w1.heap.size := ⟨_, rfl⟩
  have B8 : Blk V z 53 #[.slice A1 n1 c1, .int .i64 home, .slice A2 n2 c2, .slice A3 n3 c3] := by rw [hV]; exact (((Blk.newAt hz).alloc _).alloc _).alloc _
  have B10 : Blk V (z + 1 + 1) 38 #[.int .i64 b.x.lo, .int .i64 b.x.hi, .int .i64 b.y.lo, .int .i64 b.y.hi, .int .i64 b.u.lo, .int .i64 b.u.hi, .int .i64 b.v.lo, .int .i64 b.v.hi] := by rw [hV]; exact (Blk.newAt (by simp [hz])).alloc _
  have B11 : Blk V (z + 1 + 1 + 1) 30 #[.int .i64 x, .int .i64 y, .int .i64 u, .int .i64 v] := by rw [hV]; exact Blk.newAt (by simp [hz])
  have EV : Ext w1 V := by rw [hV]; exact ext_by
  have hgz : g < z := by have := r1.lt; omega
  rw [← hz]
  clear hV hz
  have r2 := r1.keep EV
  have hsk2 := hsky.ext EV
  have E2 := E1.trans EV
  have hzV := B11.lt
  have hwV := E2.size
  clear r1 hsky E1 EV
  have HB8 := Lib.hid B8
  have HB10 := Lib.hid B10
  have HB11 := Lib.hid B11
  have HSK := Lib.hid hsk2
  clear B8 B10 B11 hsk2
  refine (Next_c w g 200 5 V r2 (by omega) (by omega) (by omega)).mono ?_
  rintro e w3 ⟨v3, rfl, va3, vb3, hw3, hr3⟩
  have HW3 : Hid (Wr V g w3) := Lib.hid hw3
  clear hw3
  go_wp2_with fail
  go_loopw [12, 13] (fun sl ni wr => ∃ (m : Nat) (L : List Sight), ni = .int .i64 m ∧ L.length + m ≤ 4 ∧ Hid (∀ y' ∈ L, MadeSight s y' ∧ (y'.tick = 4 → agreesAll s y' x y = true)) ∧ Hid (wr.ownsRow V.heap.size 87 9 sl L.length (L.flatMap sightC)) ∧ Hid (Wr V g wr) ∧ IsRing w wr g (201 + 10 * L.length)) (fun _ ni _ => (intOf ni).toNat)
  case atStart => exact ⟨v3.toNat, [], by rw [Int.toNat_of_nonneg (by omega)], by simp; omega, Lib.hid (by intro y' hy; cases hy), World.ownsRow_nil _ _ _ _, HW3.out, hr3.mono (by simp)⟩
  case round =>
    obtain ⟨m, L, rfl, hm4, HG, HO, HW, hrr⟩ := hrel
    have b8 := HB8.out.wr HW.out (by omega)
    have b11 := HB11.out.wr HW.out (by omega)
    have c_b8 := b8.cell; have f_b8 := b8.frozen; have l_b8 := b8.lt; have c_b11 := b11.cell; have f_b11 := b11.frozen; have l_b11 := b11.lt
    by_cases hlt : 0 < m
    · go_wp2_with fail
      refine (SightOf_c w g _ A1 n1 c1 home A2 n2 c2 A3 n3 c3 s 4 x y _ hrr (by omega) (HSK.out.wr r2 HW.out) HMS.out (by omega) hpx hpy).mono ?_
      rintro e w5 ⟨kind, st, cat, dx, dy, er, lo, hi, rfl, hx, hw5, hr5⟩
      have HO5 := Lib.hid (own_wr HO.out hrr (by decide) hw5)
      have HW5 := Lib.hid (HW.out.trans hw5)
      have hz5 := HW5.out.size
      have hob : u12.ownBlock ≠ some w5.heap.size := fun e => by have := (HO5.out.lt _ e).2; omega
      clear c_b8 f_b8 l_b8 c_b11 f_b11 l_b11
      replace b8 := b8.wr hw5 (by omega)
      replace b11 := b11.wr hw5 (by omega)
      clear hw5 HO HW hrr
      have c_b8 := b8.cell; have f_b8 := b8.frozen; have l_b8 := b8.lt; have c_b11 := b11.cell; have f_b11 := b11.frozen; have l_b11 := b11.lt
      obtain ⟨ag, hag⟩ : ∃ ag, agreesAll s ⟨kind, st, cat, 4, dx, dy, er, lo, hi⟩ x y = ag := ⟨_, rfl⟩
      have HAG := Lib.hid fun W hW => Agrees_c A1 n1 c1 home A2 n2 c2 A3 n3 c3 s kind st cat 4 dx dy er lo hi x y W hW
      rw [hag] at HAG
      have Hag := Lib.hid hag
      clear hag
      go_wp2_with fail
      refine (HAG.out _ ((HSK.out.wr r2 HW5.out).ext (Ext.alloc0 _ _))).mono ?_
      rintro e w6 ⟨rfl, h6⟩
      have S14 : Blk w6 w5.heap.size 87 #[.int .i64 kind, .int .i64 st, .int .i64 cat, .int .i64 4, .int .i64 dx, .int .i64 dy, .int .i64 er, .int .i64 lo, .int .i64 hi] := (Blk.newAt rfl).ext h6
      have e6 : Ext w5 w6 := (Ext.alloc0 _ _).trans h6
      have hr6 := hr5.keep e6
      have HO6 := Lib.hid (own_ext_keep HO5.out e6)
      have HW6 := Lib.hid (HW5.out.trans (Wr.of g e6))
      have hz6 := e6.size
      clear c_b8 f_b8 l_b8 c_b11 f_b11 l_b11
      clear h6 b8 b11 HAG HO5 HW5 e6 hr5
      generalize w5.heap.size = z14 at *
      cases ag
      · have hag0 := Hag.out
        obtain ⟨V7, hV7⟩ : ∃ W, W = w6.setCell ⟨z14, 3, none⟩ (.int .i64 5) := ⟨_, rfl⟩
        have hz7 : V7.heap.size = w6.heap.size := by rw [hV7]; simp
        have hzz : V.heap.size ≤ z14 := by omega
        have S7 : Blk V7 z14 87 #[.int .i64 kind, .int .i64 st, .int .i64 cat, .int .i64 5, .int .i64 dx, .int .i64 dy, .int .i64 er, .int .i64 lo, .int .i64 hi] := by rw [hV7]; exact S14.set_ 3 _
        have r7 : IsRing w V7 g (201 + 10 * L.length + 10) := by rw [hV7]; exact (hr6.mono (by omega)).put ⟨by have := E2.size; dsimp only; omega, by dsimp only; omega⟩ _
        have O7 : Hid (V7.ownsRow V.heap.size 87 9 u12 L.length (L.flatMap sightC)) := by rw [hV7]; exact Lib.hid (own_set HO6.out hob _)
        have W7 : Hid (Wr V g V7) := by rw [hV7]; exact Lib.hid (Wr.put HW6.out (by dsimp only; omega) _)
        have c_S14 := S14.cell; have f_S14 := S14.frozen; have l_S14 := S14.lt
        go_wp2_with (at_builtin; rw [← hV7]; go_loud (refine wpList_append_sl rfl (.tmp 54) (.tmp 56) 70 rfl V.heap.size 87 is_ _ 9 72 Tryz.underlying70 his hs0 hs1 hs2 rfl (by decide) _ L.length (L.flatMap sightC) rfl (own_ext_keep O7.out (Ext.alloc0 _ _)) (some ⟨w6.heap.size, 0, none⟩) 1 1 [.int .i64 kind, .int .i64 st, .int .i64 cat, .int .i64 5, .int .i64 dx, .int .i64 dy, .int .i64 er, .int .i64 lo, .int .i64 hi] rfl rfl (.inr ⟨_, rfl, new_cells hz7.symm⟩) (by intro u hu; simp at hu; rcases hu with rfl | rfl | rfl | rfl | rfl | rfl | rfl | rfl | rfl <;> rfl) (by unfold maxLen; omega) (by omega) (by simp; omega) ?_))
        intro v' w8 ho8 hg8 _
        rw [← hV7] at hg8
        have e7 : Ext V7 (V7.alloc (.cells #[.int .i64 kind, .int .i64 st, .int .i64 cat, .int .i64 5, .int .i64 dx, .int .i64 dy, .int .i64 er, .int .i64 lo, .int .i64 hi] 87)) := Ext.alloc0 _ _
        have hO := own_ext_keep O7.out e7
        have hr8 : IsRing w w8 g (201 + 10 * L.length + 10) := (r7.keep e7).row hg8 ((r7.keep e7).ne hO (by decide)) (own_ge hO (by omega))
        have HW8 := Lib.hid ((W7.out.trans (Wr.of g e7)).row hg8 (own_ge hO (by omega)))
        have HO8 : Hid (w8.ownsRow V.heap.size 87 9 v' (L ++ [(⟨kind, st, cat, 5, dx, dy, er, lo, hi⟩ : Sight)]).length ((L ++ [(⟨kind, st, cat, 5, dx, dy, er, lo, hi⟩ : Sight)]).flatMap sightC)) := by
          rw [List.length_append, List.flatMap_append]
          exact ho8
        clear HO6 HW6 hg8 ho8 hO e7 hr6 O7 W7 r7
        go_wp2_with fail
        go_roundw
        case rel =>
          refine ⟨m - 1, L ++ [⟨kind, st, cat, 5, dx, dy, er, lo, hi⟩], by go_num, by simp; omega, Lib.hid fun y' hy => ?_, HO8, HW8, hr8.mono (by simp; omega)⟩
          rcases List.mem_append.1 hy with hy | hy
          · exact HG.out y' hy
          · rw [List.mem_singleton.1 hy]
            exact ⟨⟨hx.kind, by dsimp only; omega, hx.stn, hx.cat, hx.dir, hx.err, hx.lo, hx.hi, hx.gt⟩, fun h => absurd h (by dsimp only; omega)⟩
        case measure => simp [intOf]; omega
      · have c_S14 := S14.cell; have f_S14 := S14.frozen; have l_S14 := S14.lt
        go_wp2_with (at_builtin; go_loud (refine wpList_append_sl rfl (.tmp 54) (.tmp 56) 70 rfl V.heap.size 87 is_ _ 9 72 Tryz.underlying70 his hs0 hs1 hs2 rfl (by decide) _ L.length (L.flatMap sightC) rfl (own_ext_keep HO6.out (Ext.alloc0 _ _)) (some ⟨w6.heap.size, 0, none⟩) 1 1 [.int .i64 kind, .int .i64 st, .int .i64 cat, .int .i64 4, .int .i64 dx, .int .i64 dy, .int .i64 er, .int .i64 lo, .int .i64 hi] rfl rfl (.inr ⟨_, rfl, new_cells rfl⟩) (by intro u hu; simp at hu; rcases hu with rfl | rfl | rfl | rfl | rfl | rfl | rfl | rfl | rfl <;> rfl) (by unfold maxLen; omega) (by omega) (by simp; omega) ?_))
        intro v' w8 ho8 hg8 _
        have e7 : Ext w6 (w6.alloc (.cells #[.int .i64 kind, .int .i64 st, .int .i64 cat, .int .i64 4, .int .i64 dx, .int .i64 dy, .int .i64 er, .int .i64 lo, .int .i64 hi] 87)) := Ext.alloc0 _ _
        have hO := own_ext_keep HO6.out e7
        have hr8 : IsRing w w8 g (201 + 10 * L.length + 10) := (hr6.keep e7).row hg8 ((hr6.keep e7).ne hO (by decide)) (own_ge hO (by omega))
        have HW8 := Lib.hid ((HW6.out.trans (Wr.of g e7)).row hg8 (own_ge hO (by omega)))
        have HO8 : Hid (w8.ownsRow V.heap.size 87 9 v' (L ++ [(⟨kind, st, cat, 4, dx, dy, er, lo, hi⟩ : Sight)]).length ((L ++ [(⟨kind, st, cat, 4, dx, dy, er, lo, hi⟩ : Sight)]).flatMap sightC)) := by
          rw [List.length_append, List.flatMap_append]
          exact ho8
        clear HO6 HW6 hg8 ho8 hO e7 hr6
        go_wp2_with fail
        go_roundw
        case rel =>
          refine ⟨m - 1, L ++ [⟨kind, st, cat, 4, dx, dy, er, lo, hi⟩], by go_num, by simp; omega, Lib.hid fun y' hy => ?_, HO8, HW8, hr8.mono (by simp; omega)⟩
          rcases List.mem_append.1 hy with hy | hy
          · exact HG.out y' hy
          · rw [List.mem_singleton.1 hy]
            exact ⟨hx, fun _ => Hag.out⟩
        case measure => simp [intOf]; omega
    · obtain rfl : m = 0 := by omega
      have b10 := HB10.out.wr HW.out (by omega)
      have E0 := Lib.hid (Wr.ext HW.out E2 r2.ge)
      have hsk := HSK.out.wr r2 HW.out
      obtain ⟨Bs, ds, rfl, hS⟩ := own_sl sight_len (sight_read wr) HO.out
      have hLl : L.length ≤ 4 := by omega
      obtain ⟨M, hM, hM1⟩ := mod_nat N (m := 20) (by omega)
      obtain ⟨K, hK, hK1⟩ := mod_nat R (m := 5) (by omega)
      have HM := Lib.hid fun W => ModN_c W hM (by omega) (by omega)
      have HMk := Lib.hid fun W => ModN_c W hK (by omega) (by omega)
      obtain ⟨t1, t2, t3⟩ := cells_made HSM.out.ok (M := M) (by omega)
      obtain ⟨k1, k2, k3, k4, k5, k6, k7, k8⟩ := keeps_law (L := L) (n := M + 1) (k := K) HMS.out HSM.out.ok HX0.out.holds (by omega) (by omega) (by omega) (fun y' hy => (HG.out y' hy).1) (fun y' hy => (HG.out y' hy).2)
      have HCells := Lib.hid fun W => oCells_c b (1 + (M : Int)) W
      rw [t1, t2] at HCells
      generalize cellsB b (M + 1) = C at *
      have HF1 := Lib.hid fun A' c' W (hW : Ext wr W) (h : Bxs W A' C.length C) => oFilter_c A1 n1 c1 home A2 n2 c2 A3 n3 c3 s 4 A' _ c' C Bs _ ds L W (hsk.ext hW) h (Sights.ext hW hS)
      rw [k1, if_pos rfl] at HF1
      have HF2 := Lib.hid fun A' c' W (hW : Ext wr W) (h : Bxs W A' (filtL s 4 L C).length (filtL s 4 L C)) => oFilter_c A1 n1 c1 home A2 n2 c2 A3 n3 c3 s 4 A' _ c' (filtL s 4 L C) Bs _ ds L W (hsk.ext hW) h (Sights.ext hW hS)
      rw [k8, if_pos rfl, filt_twice] at HF2
      have HRf := Lib.hid fun A' c' W (hW : Ext wr W) (h : Bxs W A' C.length C) => oRefine_c A1 n1 c1 home A2 n2 c2 A3 n3 c3 s 4 A' _ c' C Bs _ ds L (K : Int) W (hsk.ext hW) h (Sights.ext hW hS)
      rw [k2, k3] at HRf
      generalize filtL s 4 L C = F at *
      generalize refM s 4 L K C = G at *
      have HI1 := Lib.hid fun A' c' W (h : Bxs W A' F.length F) => oIn_c A' _ c' F ⟨x, y, u, v⟩ W h
      rw [k4] at HI1
      have HI2 := Lib.hid fun A' c' W (h : Bxs W A' G.length G) => oIn_c A' _ c' G ⟨x, y, u, v⟩ W h
      rw [k5] at HI2
      have HW1 := Lib.hid fun A' c' B' d' W (h1 : Bxs W A' F.length F) (h2 : Bxs W B' C.length C) => oWithinSet_c A' B' _ _ c' d' F C W h1 h2
      rw [k6] at HW1
      have HW2 := Lib.hid fun A' c' B' d' W (h1 : Bxs W A' G.length G) (h2 : Bxs W B' C.length C) => oWithinSet_c A' B' _ _ c' d' G C W h1 h2
      rw [k7] at HW2
      clear k1 k2 k3 k4 k5 k6 k7 k8 t1 t2 t3 hM hK hS hsk HO HG HW hrr HB8 HB10 HB11 HSK HMS HSM HX0 hr3 HW3 r2
      go_wp2_with fail
      refine wp_region_chain0 false [([0, 1, 2, 3], 4)] [5, 6, 7, 8, 9] [] (Ext wr) (Ext wr) (Stable.ext _) (fun _ h => h) (Ext.drew (Ext.refl _)) (by kernel_rfl) (by kernel_rfl) ?_
      simp only [XO, pick, List.drop_succ_cons, List.drop_zero]
      have c_b10 := b10.cell; have f_b10 := b10.frozen; have l_b10 := b10.lt
      (repeat' (first | (refine bl_off (by rfl) ?_; simp only [putX]) | (apply bl_op; rfl; (intro w1 h1; obtain ⟨hc, hf, hz⟩ := bcell h1; go_simp; (try go_bits); (first | exact ⟨rfl, Ext.refl _⟩ | (apply gives_call; go_at_call 53; exact HM.out _) | (go_invoke; go_simp; apply gives_call; go_at_call 53; exact HM.out _))); simp only [putX]) | (refine bl_split rfl rfl (fun hx => ?_) (fun hx => ?_) <;> simp only [hx])))
      refine bl_nil ?_
      try simp only [pick1, List.drop_succ_cons, List.drop_zero]
      refine xe_callV (f := 46) (args := #[bxV b, .int .i64 (1 + (M : Int))]) (fun v => ∃ A' c', v = .tuple #[.slice A' C.length c', .int .i64 0]) (fun v W => Ext wr W ∧ ∀ A' m' c' e', v = .tuple #[.slice A' m' c', e'] → Bxs W A' C.length C) rfl (fun v => (Stable.ext _).and (fun W W' h e A' m' c' e' hv => Bxs.ext e (h A' m' c' e' hv))) (fun v W h => h.1) (fun w h => by go_simp) (fun w h => ?_) ?_
      · refine (HCells.out w).mono ?_
        rintro e w' ⟨A', c', rfl, k1, k2, k3⟩
        refine ⟨_, rfl, ⟨A', c', rfl⟩, h.trans k3, ?_⟩
        intro A'' m'' c'' e'' hv
        injection hv with hv
        injection hv with hv
        injection hv with hv _
        injection hv with hv1 hv2 hv3
        rw [← hv1]
        exact k1
      rintro r ⟨Ac, cc, rfl⟩
      simp only [putX]
      (repeat' (first | (refine bl_off (by rfl) ?_; simp only [putX]) | (apply bl_op; rfl; (intro w1 h1; obtain ⟨hc, hf, hz⟩ := bcell h1; go_simp; (try go_bits); (first | exact ⟨rfl, Ext.refl _⟩)); simp only [putX]) | (refine bl_split rfl rfl (fun hx => ?_) (fun hx => ?_) <;> simp only [hx])))
      refine bl_nil ?_
      refine tl_nil ?_
      rintro V4 ⟨E, hC4⟩
      have hC4 := hC4 _ _ _ _ rfl
      clear c_b8 f_b8 l_b8 c_b10 f_b10 l_b10 c_b11 f_b11 l_b11
      replace b8 := b8.ext E
      replace b11 := b11.ext E
      have HC4 := Lib.hid fun W (hW : Ext V4 W) => Bxs.ext hW hC4
      clear b10 hC4 HCells HM
      have c_b8 := b8.cell; have f_b8 := b8.frozen; have l_b8 := b8.lt; have c_b11 := b11.cell; have f_b11 := b11.frozen; have l_b11 := b11.lt
      go_wp2_with fail
      refine (HF1.out Ac cc V4 E (HC4.out _ (Ext.refl _))).mono ?_
      rintro e V5 ⟨v5, rfl, ho5, hV5⟩
      obtain ⟨A5, c5, rfl, hs5, _⟩ := ho5.cap
      have HC5 := Lib.hid fun W (hW : Ext V5 W) => HC4.out W (hV5.trans hW)
      have HF5 := Lib.hid fun W (hW : Ext V5 W) => Bxs.ext hW hs5
      clear c_b8 f_b8 l_b8; replace b8 := b8.ext hV5; clear c_b11 f_b11 l_b11; replace b11 := b11.ext hV5; replace E := Ext.trans E hV5; clear hV5; have c_b8 := b8.cell; have f_b8 := b8.frozen; have l_b8 := b8.lt; have c_b11 := b11.cell; have f_b11 := b11.frozen; have l_b11 := b11.lt
      clear ho5 hs5 HC4 HF1
      go_wp2_with fail
      refine wp_region_chain0 false [([0, 1, 2, 3, 4], 5)] [6, 7, 8, 9, 10] [] (Ext V5) (Ext V5) (Stable.ext _) (fun _ h => h) (Ext.drew (Ext.refl _)) (by kernel_rfl) (by kernel_rfl) ?_
      simp only [XO, pick, List.drop_succ_cons, List.drop_zero]
      (repeat' (first | (refine bl_off (by rfl) ?_; simp only [putX]) | (apply bl_op; rfl; (intro w1 h1; obtain ⟨hc, hf, hz⟩ := bcell h1; go_simp; (try go_bits); (first | exact ⟨rfl, Ext.refl _⟩ | (apply gives_call; go_at_call 53; exact HMk.out _) | (go_invoke; go_simp; apply gives_call; go_at_call 53; exact HMk.out _))); simp only [putX]) | (refine bl_split rfl rfl (fun hx => ?_) (fun hx => ?_) <;> simp only [hx])))
      refine bl_nil ?_
      try simp only [pick1, List.drop_succ_cons, List.drop_zero]
      refine xe_callV (f := 51) (args := #[.agg #[.slice A1 n1 c1, .int .i64 home, .slice A2 n2 c2, .slice A3 n3 c3], .int .i64 4, .slice Ac C.length cc, .slice Bs L.length ds, .int .i64 (K : Int)]) (fun v => ∃ A' c', v = .tuple #[.slice A' G.length c', .int .i64 0]) (fun v W => Ext V5 W ∧ ∀ A' m' c' e', v = .tuple #[.slice A' m' c', e'] → Bxs W A' G.length G) rfl (fun v => (Stable.ext _).and (fun W W' h e A' m' c' e' hv => Bxs.ext e (h A' m' c' e' hv))) (fun v W h => h.1) (fun w h => by go_simp) (fun w h => ?_) ?_
      · refine (HRf.out Ac cc w (E.trans h) (HC5.out w h)).mono ?_
        rintro e w' ⟨v9, rfl, ho9, k3⟩
        obtain ⟨A9, c9, rfl, hs9, _⟩ := ho9.cap
        refine ⟨_, rfl, ⟨A9, c9, rfl⟩, h.trans k3, ?_⟩
        intro A'' m'' c'' e'' hv
        injection hv with hv
        injection hv with hv
        injection hv with hv _
        injection hv with hv1 hv2 hv3
        rw [← hv1]
        exact hs9
      rintro r ⟨A6, c6, rfl⟩
      simp only [putX]
      (repeat' (first | (refine bl_off (by rfl) ?_; simp only [putX]) | (apply bl_op; rfl; (intro w1 h1; obtain ⟨hc, hf, hz⟩ := bcell h1; go_simp; (try go_bits); (first | exact ⟨rfl, Ext.refl _⟩)); simp only [putX]) | (refine bl_split rfl rfl (fun hx => ?_) (fun hx => ?_) <;> simp only [hx])))
      refine bl_nil ?_
      refine tl_nil ?_
      rintro V6 ⟨h6, hG6⟩
      have hG6 := hG6 _ _ _ _ rfl
      have HC6 := Lib.hid fun W (hW : Ext V6 W) => HC5.out W (h6.trans hW)
      have HF6 := Lib.hid fun W (hW : Ext V6 W) => HF5.out W (h6.trans hW)
      have HG6 := Lib.hid fun W (hW : Ext V6 W) => Bxs.ext hW hG6
      clear c_b8 f_b8 l_b8; replace b8 := b8.ext h6; clear c_b11 f_b11 l_b11; replace b11 := b11.ext h6; replace E := Ext.trans E h6; clear h6; have c_b8 := b8.cell; have f_b8 := b8.frozen; have l_b8 := b8.lt; have c_b11 := b11.cell; have f_b11 := b11.frozen; have l_b11 := b11.lt
      clear hG6 HC5 HF5 HRf HMk
      have J1 := Lib.hid fun W (hW : Ext V6 W) => HI1.out A5 c5 W (HF6.out W hW)
      have J2 := Lib.hid fun W (hW : Ext V6 W) => HI2.out A6 c6 W (HG6.out W hW)
      have J3 := Lib.hid fun W (hW : Ext V6 W) => HW1.out A5 c5 Ac cc W (HF6.out W hW) (HC6.out W hW)
      have J4 := Lib.hid fun W (hW : Ext V6 W) => HW2.out A6 c6 Ac cc W (HG6.out W hW) (HC6.out W hW)
      clear HI1 HI2 HW1 HW2
      go_wp2_with fail
      refine (J1.out V6 (Ext.refl _)).mono ?_
      rintro e V7 ⟨rfl, hV7⟩
      have e7 := hV7
      clear c_b8 f_b8 l_b8; replace b8 := b8.ext hV7; clear c_b11 f_b11 l_b11; replace b11 := b11.ext hV7; replace E := Ext.trans E hV7; clear hV7; have c_b8 := b8.cell; have f_b8 := b8.frozen; have l_b8 := b8.lt; have c_b11 := b11.cell; have f_b11 := b11.frozen; have l_b11 := b11.lt
      go_wp2_with fail
      refine (J2.out V7 e7).mono ?_
      rintro e V8 ⟨rfl, hV8⟩
      have e8 := e7.trans hV8
      clear c_b8 f_b8 l_b8; replace b8 := b8.ext hV8; clear c_b11 f_b11 l_b11; replace b11 := b11.ext hV8; replace E := Ext.trans E hV8; clear hV8; have c_b8 := b8.cell; have f_b8 := b8.frozen; have l_b8 := b8.lt; have c_b11 := b11.cell; have f_b11 := b11.frozen; have l_b11 := b11.lt
      go_wp2_with fail
      refine (J3.out V8 e8).mono ?_
      rintro e V9 ⟨rfl, hV9⟩
      have e9 := e8.trans hV9
      clear c_b8 f_b8 l_b8; replace b8 := b8.ext hV9; clear c_b11 f_b11 l_b11; replace b11 := b11.ext hV9; replace E := Ext.trans E hV9; clear hV9; have c_b8 := b8.cell; have f_b8 := b8.frozen; have l_b8 := b8.lt; have c_b11 := b11.cell; have f_b11 := b11.frozen; have l_b11 := b11.lt
      go_wp2_with fail
      refine (J4.out V9 e9).mono ?_
      rintro e V10 ⟨rfl, hV10⟩
      have e10 := e9.trans hV10
      clear c_b8 f_b8 l_b8; replace b8 := b8.ext hV10; clear c_b11 f_b11 l_b11; replace b11 := b11.ext hV10; replace E := Ext.trans E hV10; clear hV10; have c_b8 := b8.cell; have f_b8 := b8.frozen; have l_b8 := b8.lt; have c_b11 := b11.cell; have f_b11 := b11.frozen; have l_b11 := b11.lt
      clear J1 J2 J3 J4 e7 e8 e9
      go_wp2_with fail
      refine (HF2.out A5 c5 V10 E (HF6.out V10 e10)).mono ?_
      rintro e V11 ⟨v11, rfl, ho11, hV11⟩
      obtain ⟨A11, c11, rfl, hs11, _⟩ := ho11.cap
      have Q1 := Lib.hid fun W (hW : Ext V11 W) => HSB.out _ _ c5 _ _ c11 _ W (HF6.out W ((e10.trans hV11).trans hW)) (Bxs.ext hW hs11)
      replace E := E.trans hV11
      clear c_b8 f_b8 l_b8 c_b11 f_b11 l_b11
      clear hV11 ho11 hs11 HF6 HC6 HG6 HF2 b8 b11 e10
      go_wp2_with fail
      refine (Q1.out _ ext_by).mono ?_
      rintro e w12 ⟨rfl, h12⟩
      obtain ⟨hc_w12, hf_w12, hz_w12⟩ := bcell h12; (try simp only [szA] at hz_w12); (try have := wz0 w w12); (try have := wz1 w w12); (try have := wz2 w w12); (try have := wz3 w w12); (try have := wz4 w w12)
      go_wp2_with fail
      refine (HA.out _).mono ?_
      rintro e w13 ⟨rfl, h13⟩
      obtain ⟨hc_w13, hf_w13, hz_w13⟩ := bcell h13; (try simp only [szA] at hz_w13); (try have := wz0 w w13); (try have := wz1 w w13); (try have := wz2 w w13); (try have := wz3 w w13); (try have := wz4 w w13)
      go_wp2_with fail
      go_ret
      exact ⟨rfl, E0.out.trans (E.trans ext_by)⟩
end Go.Proofs.YtfniicgoeljmdaaGreat

namespace Go.Proofs.YtfniicgoeljmdaaGreat
open Go.RowKit Go.ChangeShapes Go.WideShapes Go.ChangeAt

set_option maxRecDepth 100000 in
set_option maxHeartbeats 1000000 in
theorem okeeps_lifted (os : Os) (started : os.Started) (H : Type) (enc : TypeId × Value → H) :
    ReturnsInHanded {} Tryz.checked os 13 .any (Rows.orbitKeepsSpec.pre6 enc Tryz.prog Tryz.f13 Rows.orbitKeepsRow.domain false) (Rows.orbitKeepsSpec.post enc Tryz.prog Tryz.f13 false true false false) := by
  refine returnsInHanded_of_change (C := Tryz.checked) own started (by kernel_rfl) Tryz.func13
    (ChangeSpec.witness6 (enc := enc) (C := Tryz.checked) false ⟨#[], #[.slice none 0 0, .int .i64 0, .int .i64 0], []⟩ 8 (by kernel_rfl) (by kernel_rfl) (by kernel_rfl) (by kernel_rfl)) ?_
  intro W base args ds gs before hval0 hW _ _
  have hval : ∀ (j : Nat) t v, Tryz.f13.params[j]? = some t → args[j]? = some v → Value.okWide Tryz.prog W .any base t v := hval0
  have hW' := hW
  obtain ⟨p, q, hA0, hV, rfl, hfz, hnd⟩ := hW
  have hA : DataW.TrodAll enc Tryz.prog W 0 (fun _ => true) true Tryz.f13.params.toList args.toList ds p := hA0
  rw [Tryz.params13] at hA hval
  obtain ⟨v0, vs0, d0, ds0, p0, q0, hargs, rfl, rfl, h0, r0⟩ := trodAll_cons hA
  obtain ⟨v1, vs1, d1, ds1, p1, q1, rfl, rfl, rfl, h1, r1⟩ := trodAll_cons r0
  obtain ⟨v2, vs2, d2, ds2, p2, q2, rfl, rfl, rfl, h2, r2⟩ := trodAll_cons r1
  obtain ⟨rfl, rfl, rfl⟩ := trodAll_nil r2
  obtain ⟨rfl, rfl⟩ := trodVars_none hV
  obtain rfl : args = #[v0, v1, v2] := by cases args; simp_all
  obtain ⟨A0, len0, cap0, rfl⟩ := okWide_slice Tryz.underlying48 (hval 0 _ v0 rfl rfl)
  obtain ⟨fuel0, h0⟩ := h0
  obtain ⟨A_0, n_0, c_0, l_0, e0, hl0⟩ := open_ints h0
  injection e0 with e0 _; injection e0 with e0a e0b e0c; subst e0a e0b e0c
  obtain ⟨m1, rfl⟩ := okWide_int Tryz.underlying3 (hval 1 _ v1 rfl rfl)
  obtain ⟨m2, rfl⟩ := okWide_int Tryz.underlying3 (hval 2 _ v2 rfl rfl)
  refine (OrbitKeeps_c A0 len0 cap0 l_0 _ _ W hl0  ).mono fun e W' ⟨he, hb⟩ => ?_
  subst he
  exact ⟨_, rfl, law_post (by kernel_rfl) rfl rfl hW' rfl hb⟩

end Go.Proofs.YtfniicgoeljmdaaGreat
