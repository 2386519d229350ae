/- What OrbitPacks leans on besides the walk. Plain law. No condition. OrbitPacks, walked: it returns true. No condition. OrbitPacks, lifted to what the statement says of a run. No condition. -/
import Derived.Test.YtfniicgoeljmdaaGreatKeepsTwo
import Derived.Test.YtfniicgoeljmdaaGreatPacksLaw
import Derived.Test.YtfniicgoeljmdaaGreatUpdateAll
import Derived.Test.YtfniicgoeljmdaaGreatPackAll
import Derived.Test.YtfniicgoeljmdaaGreatSightOf
import Derived.Test.YtfniicgoeljmdaaGreatAwakeFour
import Derived.Test.YtfniicgoeljmdaaGreatOwnBoxes
import Derived.Test.YtfniicgoeljmdaaGreatOpen2
import Derived.Test.YtfniicgoeljmdaaGreatLaw
namespace Go.Proofs.YtfniicgoeljmdaaGreat
open Go.RowKit

theorem upd_some {s : Sky} {d : Drf} {t k : Int} {C : List Bx} {sg : List Sight} (h : updErr s d t C k sg = 0) : updM s d sg k.toNat t (filtL s t sg C) = some (updL s d t C k sg) := by
  rcases upd_cases s d t C k sg with ⟨_, _, _, _, h5, h6⟩ | ⟨_, h2⟩
  · rw [h] at h5
    rw [h6]
    cases hp : updM s d sg k.toNat t (filtL s t sg C) with
    | none => rw [hp] at h5; simp at h5
    | some K => rfl
  · rcases h2 with ⟨_, h2⟩ | ⟨_, _, h2⟩ | ⟨_, _, _, h2⟩ | ⟨_, _, _, _, h2⟩ <;> exact absurd h h2
theorem packs_law2 {s : Sky} {d : Drf} {t k : Int} {C : List Bx} {sg : List Sight} (hv : ∀ b ∈ C, bxErr b = 0) (h0 : C ≠ []) (h1 : updErr s d t C k sg = 0) (h2 : updErr s d t C k [] = 0) (h3 : updErr s d t C.dropLast k sg = 0) :
    withinS (updL s d t C k sg) (updL s d t C k []) = true ∧ (updL s d t C.dropLast k sg).length ≤ (updL s d t C k sg).length ∧ (updL s d t C k sg).take (updL s d t C.dropLast k sg).length = updL s d t C.dropLast k sg ∧
      (updL s d t C k sg).length ≤ (updL s d t C.dropLast k sg).length + 1 := by
  have u1 := upd_some h1
  have u2 := upd_some h2
  have u3 := upd_some h3
  rw [filt_none] at u2
  have hval : ∀ c ∈ updL s d t C k [], bxErr c = 0 := (prop_valid _ _ _ _ hv (by rw [← upd_none]; exact u2)).1
  refine ⟨upd_law u1 u2 hval, ?_⟩
  have hc : C = C.dropLast ++ [C.getLast h0] := (List.dropLast_concat_getLast h0).symm
  generalize hW : updL s d t C.dropLast k sg = W at *
  generalize hU : updL s d t C k sg = U at *
  rw [hc] at u1
  exact upd_less u1 u3
theorem packs_law1 {b : Bx} {n N : Nat} (hb : bxErr b = 0) (hn : 1 ≤ n ∧ n ≤ 100) (hN : 1 ≤ N ∧ N ≤ 512) :
    packErr (cellsB b n) N = 0 ∧ packL (cellsB b n) N = packF N (cellsB b n).length (cellsB b n) ∧ hullM (cellsB b n) = b ∧ hullOk (cellsB b n) = true ∧ withinS (cellsB b n) (packF N (cellsB b n).length (cellsB b n)) = true ∧ withinS (packF N (cellsB b n).length (cellsB b n)) [b] = true ∧
      1 ≤ (packF N (cellsB b n).length (cellsB b n)).length ∧ (packF N (cellsB b n).length (cellsB b n)).length ≤ N := by
  obtain ⟨_, q2, q3, q4⟩ := cells_law (b := b) (n := n) hb hn.1
  have hv : ∀ c ∈ cellsB b n, bxErr c = 0 := fun c hc => (q2 c hc).1
  have hs : setErr (cellsB b n) = 0 := set_of (by omega) hv
  have h0 : cellsB b n ≠ [] := fun e => by rw [e] at q3; simp at q3
  obtain ⟨p1, p2, p3, p4⟩ := packs_within (n := N) hN.1 hv h0 (fun c hc => (q2 c hc).2)
  have e1 : packErr (cellsB b n) N = 0 := by unfold packErr; rw [if_neg (by simp [hs]), if_neg (by omega)]
  have e2 : hullOk (cellsB b n) = true := by unfold hullOk; simp [h0, hs]
  refine ⟨e1, ?_, ?_, e2, p1, p2, ?_, p4⟩
  · unfold packL; rw [if_pos e1, Int.toNat_natCast]
  · unfold hullM; rw [e2, if_pos rfl, cells_hull hb]
  · exact List.length_pos_iff.2 p3
end Go.Proofs.YtfniicgoeljmdaaGreat

namespace Go.Proofs.YtfniicgoeljmdaaGreat
open Go.RowKit

theorem bxAt.wr {wb w w' : World} {g : Nat} {B : Int} (r : IsRing wb w g B) (k : Wr w g w') {x : Bx} {b o : Nat} (h : bxAt w x b o) : bxAt w' x b o := by
  obtain ⟨h0, h1, h2, h3, h4, h5, h6, h7⟩ := h
  have hb := r.two h0 h1
  exact ⟨r.keeps k hb h0, r.keeps k hb h1, r.keeps k hb h2, r.keeps k hb h3, r.keeps k hb h4, r.keeps k hb h5, r.keeps k hb h6, r.keeps k hb h7⟩
theorem Bxs.wr {wb w w' : World} {g : Nat} {B : Int} (r : IsRing wb w g B) (k : Wr w g w') {A : Option Addr} {n : Nat} {l : List Bx} (h : Bxs w A n l) : Bxs w' A n l := SlR.mono h fun _ _ _ _ => bxAt.wr r k
theorem SlR.first {α : Type} {sz : Nat} {R : α → Nat → Nat → Prop} {A : Option Addr} {n : Nat} {l : List α} (h : SlR sz R A n l) {m : Nat} (hm : m ≤ n) : SlR sz R A m (l.take m) := by
  have h1 := h.len
  have h2 := h.le
  refine ⟨by rw [List.length_take]; omega, by omega, ?_⟩
  by_cases h0 : m = 0
  · exact .inl h0
  · obtain ⟨b, off, hA, hc⟩ := h.at_ (by omega)
    refine .inr ⟨b, off, hA, fun k hk => ?_⟩
    rw [List.length_take] at hk
    have := hc k (by omega)
    simpa using this
set_option maxRecDepth 20000 in
set_option maxHeartbeats 8000000 in
theorem OrbitPacks_c (A : Option Addr) (n c : Nat) (l : List Int) (Nc Np Nt : Int) (w : World) (hl : Ints w A n l) :
    Calls Tryz.prog 15 #[.slice A n c, .int .i64 Nc, .int .i64 Np, .int .i64 Nt] w fun e w' => e = .returned (.bool true) ∧ Ext w w' := by
  have HA := Lib.hid fun W => awake4_c W
  have HSB := Lib.hid fun A' n' c' B' m' d' l' W => SameBoxes_c A' n' c' B' m' d' l' W
  obtain ⟨is_, his, hs0, hs1, hs2⟩ := info_parts info_sight
  go_enter Tryz.func15, Tryz.ntmps15
  go_wp2_with fail
  refine (made4_c A n c l _ hl).mono ?_
  rintro e w1 ⟨g, A1, n1, c1, home, A2, n2, c2, A3, n3, c3, s, ll, lh, el, eh, gs, b, x, y, u, v, bs, rfl, hF, hsky, hms, hgas, hsm, hx0⟩
  have E1 := hF.ext
  have r1 := hF.ring
  have hb := hsm.ok
  have HDR := Lib.hid (drift_of hgas)
  have hpx : -4000 ≤ x ∧ x ≤ 4000 := by unfold smallB at hsm; unfold inBx at hx0; dsimp only at hx0; omega
  have hpy : -4000 ≤ y ∧ y ≤ 4000 := by unfold smallB at hsm; unfold inBx at hx0; dsimp only at hx0; omega
  have HMS := Lib.hid hms
  obtain ⟨M, hM, hM1⟩ := mod_nat Nc (m := 30) (by omega)
  obtain ⟨P, hP, hP1⟩ := mod_nat Np (m := 30) (by omega)
  obtain ⟨K, hK, hK1⟩ := mod_nat Nt (m := 5) (by omega)
  have HM := Lib.hid fun W => ModN_c W hM (by omega) (by omega)
  have HMp := Lib.hid fun W => ModN_c W hP (by omega) (by omega)
  have HMk := Lib.hid fun W => ModN_c W hK (by omega) (by omega)
  obtain ⟨t1, t2, t3⟩ := cells_made hb (M := M) (by omega)
  obtain ⟨p1, p2, p3, p4, p5, p6, p7, p8⟩ := packs_law1 (b := b) (n := M + 1) (N := P + 1) hb (by omega) (by omega)
  have HCells := Lib.hid fun W => oCells_c b (1 + (M : Int)) W
  rw [t1, t2] at HCells
  have hC1 : 1 ≤ (cellsB b (M + 1)).length := (cells_law (b := b) (n := M + 1) hb (by omega)).2.2.1
  have hC2 : (cellsB b (M + 1)).length ≤ 60 := by have := (cells_law (b := b) (n := M + 1) hb (by omega)).2.2.2; omega
  generalize cellsB b (M + 1) = C at *
  have HPK := Lib.hid fun A' c' W (h : Bxs W A' C.length C) => oPack_c A' _ c' C ((P + 1 : Nat) : Int) W h
  rw [p1, p2, show ((P + 1 : Nat) : Int) = 1 + (P : Int) by omega] at HPK
  have HHU := Lib.hid fun A' c' W (h : Bxs W A' C.length C) hc => oHull_c A' _ c' C W h hc
  rw [p3, p4] at HHU
  generalize packF (P + 1) C.length C = F at *
  have HW1 := Lib.hid fun A' c' B' d' W (h1 : Bxs W A' C.length C) (h2 : Bxs W B' F.length F) => oWithinSet_c A' B' _ _ c' d' C F W h1 h2
  rw [p5] at HW1
  have HW2 := Lib.hid fun A' c' B' d' W (h1 : Bxs W A' F.length F) (h2 : Bxs W B' 1 [b]) => oWithinSet_c A' B' _ _ c' d' F [b] W h1 h2
  rw [p6] at HW2
  have T3 := Lib.hid t3
  clear hsm hx0 hF hl hgas hms p1 p2 p3 p4 p5 p6 t1 t2 t3 hb hM hP hK
  go_wp2_with fail
  refine name_w _ ?_
  intro V hV
  obtain ⟨z, hz⟩ : ∃ z, z = w1.heap.size := ⟨_, rfl⟩
  have B10 : Blk V z 53 #[.slice A1 n1 c1, .int .i64 home, .slice A2 n2 c2, .slice A3 n3 c3] := by rw [hV]; exact (((Blk.newAt hz).alloc _).alloc _).alloc _
  have B11 : Blk V (z + 1) 28 #[.int .i64 ll, .int .i64 lh, .int .i64 el, .int .i64 eh, .int .i64 gs] := by rw [hV]; exact ((Blk.newAt (by simp [hz])).alloc _).alloc _
  have B12 : Blk V (z + 1 + 1) 38 #[.int .i64 b.x.lo, .int .i64 b.x.hi, .int .i64 b.y.lo, .int .i64 b.y.hi, .int .i64 b.u.lo, .int .i64 b.u.hi, .int .i64 b.v.lo, .int .i64 b.v.hi] := by rw [hV]; exact (Blk.newAt (by simp [hz])).alloc _
  have B13 : Blk V (z + 1 + 1 + 1) 30 #[.int .i64 x, .int .i64 y, .int .i64 u, .int .i64 v] := by rw [hV]; exact Blk.newAt (by simp [hz])
  have E : Ext w1 V := by rw [hV]; exact ext_by
  have hgz : g < z := by have := r1.lt; omega
  rw [← hz]
  clear hV hz
  have c_B10 := B10.cell; have f_B10 := B10.frozen; have l_B10 := B10.lt; have c_B11 := B11.cell; have f_B11 := B11.frozen; have l_B11 := B11.lt; have c_B12 := B12.cell; have f_B12 := B12.frozen; have l_B12 := B12.lt; have c_B13 := B13.cell; have f_B13 := B13.frozen; have l_B13 := B13.lt
  refine wp_region_chain0 false [([0, 1, 2, 3], 4)] [5, 6, 7, 8, 9] [] (Ext V) (Ext V) (Stable.ext _) (fun _ h => h) (Ext.drew (Ext.refl _)) (by kernel_rfl) (by kernel_rfl) ?_
  simp only [XO, pick, List.drop_succ_cons, List.drop_zero]
  (repeat' (first | (refine bl_off (by rfl) ?_; simp only [putX]) | (apply bl_op; rfl; (intro w1 h1; obtain ⟨hc, hf, hz⟩ := bcell h1; go_simp; (try go_bits); (first | exact ⟨rfl, Ext.refl _⟩ | (apply gives_call; go_at_call 53; exact HM.out _) | (go_invoke; go_simp; apply gives_call; go_at_call 53; exact HM.out _))); simp only [putX]) | (refine bl_split rfl rfl (fun hx => ?_) (fun hx => ?_) <;> simp only [hx])))
  refine bl_nil ?_
  try simp only [pick1, List.drop_succ_cons, List.drop_zero]
  refine xe_callV (f := 46) (args := #[bxV b, .int .i64 (1 + (M : Int))]) (fun v => ∃ A' c', v = .tuple #[.slice A' C.length c', .int .i64 0] ∧ C.length ≤ c') (fun v W => Ext V W ∧ ∀ A' m' c' e', v = .tuple #[.slice A' m' c', e'] → Bxs W A' C.length C) rfl (fun v => (Stable.ext _).and (fun W W' h e A' m' c' e' hv => Bxs.ext e (h A' m' c' e' hv))) (fun v W h => h.1) (fun w h => by go_simp) (fun w h => ?_) ?_
  · refine (HCells.out w).mono ?_
    rintro e w' ⟨A', c', rfl, k1, k2, k3⟩
    refine ⟨_, rfl, ⟨A', c', rfl, k2⟩, h.trans k3, ?_⟩
    intro A'' m'' c'' e'' hv
    injection hv with hv
    injection hv with hv
    injection hv with hv _
    injection hv with hv1 hv2 hv3
    rw [← hv1]
    exact k1
  rintro r ⟨Ac, cc, rfl, hcc⟩
  simp only [putX]
  (repeat' (first | (refine bl_off (by rfl) ?_; simp only [putX]) | (apply bl_op; rfl; (intro w1 h1; obtain ⟨hc, hf, hz⟩ := bcell h1; go_simp; (try go_bits); (first | exact ⟨rfl, Ext.refl _⟩)); simp only [putX]) | (refine bl_split rfl rfl (fun hx => ?_) (fun hx => ?_) <;> simp only [hx])))
  refine bl_nil ?_
  refine tl_nil ?_
  rintro V4 ⟨h4, hC4⟩
  have hC4 := hC4 _ _ _ _ rfl
  have HC4 := Lib.hid fun W (hW : Ext V4 W) => Bxs.ext hW hC4
  clear c_B10 f_B10 l_B10; replace B10 := B10.ext h4; clear c_B11 f_B11 l_B11; replace B11 := B11.ext h4; clear c_B12 f_B12 l_B12; replace B12 := B12.ext h4; clear c_B13 f_B13 l_B13; replace B13 := B13.ext h4; replace E := Ext.trans E h4; clear h4; have c_B10 := B10.cell; have f_B10 := B10.frozen; have l_B10 := B10.lt; have c_B11 := B11.cell; have f_B11 := B11.frozen; have l_B11 := B11.lt; have c_B12 := B12.cell; have f_B12 := B12.frozen; have l_B12 := B12.lt; have c_B13 := B13.cell; have f_B13 := B13.frozen; have l_B13 := B13.lt
  clear hC4 HCells HM
  go_wp2_with fail
  refine (HMp.out _).mono ?_
  rintro e V5 ⟨rfl, h5⟩
  have HC5 := Lib.hid fun W (hW : Ext V5 W) => HC4.out W (h5.trans hW)
  clear c_B10 f_B10 l_B10; replace B10 := B10.ext h5; clear c_B11 f_B11 l_B11; replace B11 := B11.ext h5; clear c_B12 f_B12 l_B12; replace B12 := B12.ext h5; clear c_B13 f_B13 l_B13; replace B13 := B13.ext h5; replace E := Ext.trans E h5; clear h5; have c_B10 := B10.cell; have f_B10 := B10.frozen; have l_B10 := B10.lt; have c_B11 := B11.cell; have f_B11 := B11.frozen; have l_B11 := B11.lt; have c_B12 := B12.cell; have f_B12 := B12.frozen; have l_B12 := B12.lt; have c_B13 := B13.cell; have f_B13 := B13.frozen; have l_B13 := B13.lt
  clear HC4 HMp
  go_wp2_with fail
  refine (HMk.out _).mono ?_
  rintro e V6 ⟨rfl, h6⟩
  have HC6 := Lib.hid fun W (hW : Ext V6 W) => HC5.out W (h6.trans hW)
  clear c_B10 f_B10 l_B10; replace B10 := B10.ext h6; clear c_B11 f_B11 l_B11; replace B11 := B11.ext h6; clear c_B12 f_B12 l_B12; replace B12 := B12.ext h6; clear c_B13 f_B13 l_B13; replace B13 := B13.ext h6; replace E := Ext.trans E h6; clear h6; have c_B10 := B10.cell; have f_B10 := B10.frozen; have l_B10 := B10.lt; have c_B11 := B11.cell; have f_B11 := B11.frozen; have l_B11 := B11.lt; have c_B12 := B12.cell; have f_B12 := B12.frozen; have l_B12 := B12.lt; have c_B13 := B13.cell; have f_B13 := B13.frozen; have l_B13 := B13.lt
  clear HC5 HMk
  go_wp2_with fail
  refine (HPK.out Ac cc V6 (HC6.out _ (Ext.refl _))).mono ?_
  rintro e V7 ⟨v7, rfl, ho7, hV7⟩
  obtain ⟨A7, c7, rfl, hs7, _⟩ := ho7.cap
  have HC7 := Lib.hid fun W (hW : Ext V7 W) => HC6.out W (hV7.trans hW)
  have HF7 := Lib.hid fun W (hW : Ext V7 W) => Bxs.ext hW hs7
  clear c_B10 f_B10 l_B10; replace B10 := B10.ext hV7; clear c_B11 f_B11 l_B11; replace B11 := B11.ext hV7; clear c_B12 f_B12 l_B12; replace B12 := B12.ext hV7; clear c_B13 f_B13 l_B13; replace B13 := B13.ext hV7; replace E := Ext.trans E hV7; clear hV7; have c_B10 := B10.cell; have f_B10 := B10.frozen; have l_B10 := B10.lt; have c_B11 := B11.cell; have f_B11 := B11.frozen; have l_B11 := B11.lt; have c_B12 := B12.cell; have f_B12 := B12.frozen; have l_B12 := B12.lt; have c_B13 := B13.cell; have f_B13 := B13.frozen; have l_B13 := B13.lt
  clear ho7 hs7 HC6 HPK
  go_wp2_with fail
  refine (HHU.out Ac cc V7 (HC7.out _ (Ext.refl _)) hcc).mono ?_
  rintro e V8 ⟨rfl, hV8⟩
  have HC8 := Lib.hid fun W (hW : Ext V8 W) => HC7.out W (hV8.trans hW)
  have HF8 := Lib.hid fun W (hW : Ext V8 W) => HF7.out W (hV8.trans hW)
  clear c_B10 f_B10 l_B10; replace B10 := B10.ext hV8; clear c_B11 f_B11 l_B11; replace B11 := B11.ext hV8; clear c_B12 f_B12 l_B12; replace B12 := B12.ext hV8; clear c_B13 f_B13 l_B13; replace B13 := B13.ext hV8; replace E := Ext.trans E hV8; clear hV8; have c_B10 := B10.cell; have f_B10 := B10.frozen; have l_B10 := B10.lt; have c_B11 := B11.cell; have f_B11 := B11.frozen; have l_B11 := B11.lt; have c_B12 := B12.cell; have f_B12 := B12.frozen; have l_B12 := B12.lt; have c_B13 := B13.cell; have f_B13 := B13.frozen; have l_B13 := B13.lt
  clear HC7 HF7 HHU
  have hqf0 : ((F.length : Int) == 0) = false := beq_false_of_ne (by omega)
  have hqf1 : ¬ (1 + (P : Int) < (F.length : Int)) := by omega
  go_wp2_with fail
  obtain ⟨V9, hV9⟩ : ∃ W, W = V8.alloc (.cells #[.int .i64 b.x.lo, .int .i64 b.x.hi, .int .i64 b.y.lo, .int .i64 b.y.hi, .int .i64 b.u.lo, .int .i64 b.u.hi, .int .i64 b.v.lo, .int .i64 b.v.hi] 38) := ⟨_, rfl⟩
  obtain ⟨z18, hz18⟩ : ∃ z, z = V8.heap.size := ⟨_, rfl⟩
  rw [← hV9]
  (try rw [← hz18])
  have B18 : Blk V9 z18 38 #[.int .i64 b.x.lo, .int .i64 b.x.hi, .int .i64 b.y.lo, .int .i64 b.y.hi, .int .i64 b.u.lo, .int .i64 b.u.hi, .int .i64 b.v.lo, .int .i64 b.v.hi] := by rw [hV9]; exact Blk.newAt hz18
  have k1 : Ext V8 V9 := by rw [hV9]; exact Ext.alloc0 _ _
  have k2 := k1
  clear hV9 hz18
  clear c_B10 f_B10 l_B10; replace B10 := B10.ext k2; clear c_B11 f_B11 l_B11; replace B11 := B11.ext k2; clear c_B12 f_B12 l_B12; replace B12 := B12.ext k2; clear c_B13 f_B13 l_B13; replace B13 := B13.ext k2; replace E := Ext.trans E k2; clear k2; have c_B10 := B10.cell; have f_B10 := B10.frozen; have l_B10 := B10.lt; have c_B11 := B11.cell; have f_B11 := B11.frozen; have l_B11 := B11.lt; have c_B12 := B12.cell; have f_B12 := B12.frozen; have l_B12 := B12.lt; have c_B13 := B13.cell; have f_B13 := B13.frozen; have l_B13 := B13.lt
  have c_B18 := B18.cell; have f_B18 := B18.frozen; have l_B18 := B18.lt
  have HC9 := Lib.hid fun W (hW : Ext V9 W) => HC8.out W (k1.trans hW)
  have HF9 := Lib.hid fun W (hW : Ext V9 W) => HF8.out W (k1.trans hW)
  clear k1 HC8 HF8
  refine (HW1.out Ac cc A7 c7 V9 (HC9.out _ (Ext.refl _)) (HF9.out _ (Ext.refl _))).mono ?_
  rintro e V10 ⟨rfl, hV10⟩
  have HC10 := Lib.hid fun W (hW : Ext V10 W) => HC9.out W (hV10.trans hW)
  have HF10 := Lib.hid fun W (hW : Ext V10 W) => HF9.out W (hV10.trans hW)
  clear c_B10 f_B10 l_B10; replace B10 := B10.ext hV10; clear c_B11 f_B11 l_B11; replace B11 := B11.ext hV10; clear c_B12 f_B12 l_B12; replace B12 := B12.ext hV10; clear c_B13 f_B13 l_B13; replace B13 := B13.ext hV10; clear c_B18 f_B18 l_B18; replace B18 := B18.ext hV10; replace E := Ext.trans E hV10; clear hV10; have c_B10 := B10.cell; have f_B10 := B10.frozen; have l_B10 := B10.lt; have c_B11 := B11.cell; have f_B11 := B11.frozen; have l_B11 := B11.lt; have c_B12 := B12.cell; have f_B12 := B12.frozen; have l_B12 := B12.lt; have c_B13 := B13.cell; have f_B13 := B13.frozen; have l_B13 := B13.lt; have c_B18 := B18.cell; have f_B18 := B18.frozen; have l_B18 := B18.lt
  clear HC9 HF9 HW1
  go_wp2_with fail
  refine (HW2.out A7 c7 (some ⟨V10.heap.size, 0, none⟩) 1 _ (HF10.out _ (Ext.alloc0 _ _)) (bx_slice [b] (Blk.newAt rfl) (by simp))).mono ?_
  rintro e V11 ⟨rfl, hV11⟩
  have e11 : Ext V10 V11 := (Ext.alloc0 _ _).trans hV11
  have HC11 := Lib.hid fun W (hW : Ext V11 W) => HC10.out W (e11.trans hW)
  clear hV11
  clear c_B10 f_B10 l_B10; replace B10 := B10.ext e11; clear c_B11 f_B11 l_B11; replace B11 := B11.ext e11; clear c_B12 f_B12 l_B12; replace B12 := B12.ext e11; clear c_B13 f_B13 l_B13; replace B13 := B13.ext e11; clear c_B18 f_B18 l_B18; replace B18 := B18.ext e11; replace E := Ext.trans E e11; clear e11; have c_B10 := B10.cell; have f_B10 := B10.frozen; have l_B10 := B10.lt; have c_B11 := B11.cell; have f_B11 := B11.frozen; have l_B11 := B11.lt; have c_B12 := B12.cell; have f_B12 := B12.frozen; have l_B12 := B12.lt; have c_B13 := B13.cell; have f_B13 := B13.frozen; have l_B13 := B13.lt; have c_B18 := B18.cell; have f_B18 := B18.frozen; have l_B18 := B18.lt
  clear HC10 HF10 HW2
  go_wp2_with fail
  clear hqf0 hqf1 p7 p8 hP1
  have r2 := r1.keep E
  have hsk2 := hsky.ext E
  have E2 := E1.trans E
  have hzV := B13.lt
  have hwV := E2.size
  clear r1 hsky E1 E
  have HB10 := Lib.hid B10
  have HB11 := Lib.hid B11
  have HB13 := Lib.hid B13
  have HSK := Lib.hid hsk2
  clear c_B10 f_B10 l_B10 c_B11 f_B11 l_B11 c_B12 f_B12 l_B12 c_B13 f_B13 l_B13 c_B18 f_B18 l_B18
  clear B10 B11 B12 B13 B18 hsk2
  refine (Next_c w g 200 4 V11 r2 (by omega) (by omega) (by omega)).mono ?_
  rintro e w3 ⟨v3, rfl, va3, vb3, hw3, hr3⟩
  have HW3 : Hid (Wr V11 g w3) := Lib.hid hw3
  clear hw3
  go_wp2_with fail
  go_loopw [20, 21] (fun sl ni wr => ∃ (m : Nat) (L : List Sight), ni = .int .i64 m ∧ L.length + m ≤ 3 ∧ Hid (∀ y' ∈ L, MadeSight s y') ∧ Hid (wr.ownsRow V11.heap.size 87 9 sl L.length (L.flatMap sightC)) ∧ Hid (Wr V11 g wr) ∧ IsRing w wr g (201 + 11 * L.length)) (fun _ ni _ => (intOf ni).toNat)
  case atStart => exact ⟨v3.toNat, [], by rw [Int.toNat_of_nonneg (by omega)], by simp; omega, Lib.hid (by intro y' hy; cases hy), World.ownsRow_nil _ _ _ _, HW3.out, hr3.mono (by simp)⟩
  case round =>
    obtain ⟨m, L, rfl, hm4, HG, HO, HW, hrr⟩ := hrel
    obtain ⟨wq, rfl⟩ : ∃ wq : World, wq = wr := ⟨_, rfl⟩
    have b10 := HB10.out.wr HW.out (by omega)
    have b13 := HB13.out.wr HW.out (by omega)
    have hsq := HSK.out.wr r2 HW.out
    have c_b10 := b10.cell; have f_b10 := b10.frozen; have l_b10 := b10.lt; have c_b13 := b13.cell; have f_b13 := b13.frozen; have l_b13 := b13.lt
    by_cases hlt : 0 < m
    · go_wp2_with fail
      have hS : ∀ W, Wr wq g W → Blk W z 53 #[.slice A1 n1 c1, .int .i64 home, .slice A2 n2 c2, .slice A3 n3 c3] ∧ Blk W (z + 1 + 1 + 1) 30 #[.int .i64 x, .int .i64 y, .int .i64 u, .int .i64 v] := fun W h => ⟨b10.wr h (by omega), b13.wr h (by omega)⟩
      refine wp_region_chain0 false [([0, 1, 2, 3, 5, 6, 7, 8, 9], 4), ([], 10)] [] [11, 12, 13] (fun W => Blk W z 53 #[.slice A1 n1 c1, .int .i64 home, .slice A2 n2 c2, .slice A3 n3 c3] ∧ Blk W (z + 1 + 1 + 1) 30 #[.int .i64 x, .int .i64 y, .int .i64 u, .int .i64 v]) (fun W => Wr wq g W ∧ IsRing w W g (201 + 11 * L.length)) ((Wr.stable wq g).and (Stable.ring _ _ _)) (fun W h => hS W h.1) ⟨(Wr.refl _ _).drew, hrr.drew⟩ (by kernel_rfl) (by kernel_rfl) ?_
      simp only [XO, pick, List.drop_succ_cons, List.drop_zero]
      repeat' (first | (refine bl_off (by rfl) ?_; simp only [putX]) | (apply bl_op; rfl; (intro w1 h1; obtain ⟨hq6, hq7⟩ := h1; have hc6 := hq6.cell; have hl6 := hq6.lt; have hc7 := hq7.cell; have hl7 := hq7.lt; go_simp; (try go_bits); (first | exact ⟨rfl, Ext.refl _⟩)); simp only [putX]) | (refine bl_split rfl rfl (fun hx => ?_) (fun hx => ?_) <;> simp only [hx]))
      refine bl_nil ?_
      try simp only [pick1, List.drop_succ_cons, List.drop_zero]
      refine xe_call (f := 62) (args := #[.pointer (some ⟨g, 0, none⟩), .int .i64 6]) (fun r => ∃ q : Int, r = .int .i64 q ∧ 0 ≤ q ∧ q < 6) (fun W => Wr wq g W ∧ IsRing w W g (202 + 11 * L.length)) rfl ((Wr.stable wq g).and (Stable.ring _ _ _)) (fun W h => hS W h.1) (fun W h => by go_simp) (fun W h => ?_) ?_
      · refine (Next_c w g (201 + 11 * L.length) 6 W h.2 (by omega) (by omega) (by omega)).mono ?_
        rintro e w' ⟨q, rfl, p1, p2, k1, k2⟩
        exact ⟨_, rfl, ⟨q, rfl, p1, p2⟩, h.1.trans k1, k2.mono (by omega)⟩
      rintro r ⟨tk, rfl, ht0, ht1⟩
      simp only [putX]
      refine bl_nil ?_
      try simp only [pick1, List.drop_succ_cons, List.drop_zero]
      refine xe_call (f := 63) (args := #[.pointer (some ⟨g, 0, none⟩), .agg #[.slice A1 n1 c1, .int .i64 home, .slice A2 n2 c2, .slice A3 n3 c3], .int .i64 tk, .agg #[.int .i64 x, .int .i64 y]]) (fun r => ∃ kind st cat dx dy er lo hi : Int, r = .agg #[.int .i64 kind, .int .i64 st, .int .i64 cat, .int .i64 tk, .int .i64 dx, .int .i64 dy, .int .i64 er, .int .i64 lo, .int .i64 hi] ∧ MadeSight s ⟨kind, st, cat, tk, dx, dy, er, lo, hi⟩) (fun W => Wr wq g W ∧ IsRing w W g (212 + 11 * L.length)) rfl ((Wr.stable wq g).and (Stable.ring _ _ _)) (fun W h => hS W h.1) (fun W h => by go_simp) (fun W h => ?_) ?_
      · refine (SightOf_c w g (202 + 11 * L.length) A1 n1 c1 home A2 n2 c2 A3 n3 c3 s tk x y W h.2 (by omega) (hsq.wr hrr h.1) HMS.out (by omega) hpx hpy).mono ?_
        rintro e w' ⟨kind, st, cat, dx, dy, er, lo, hi, rfl, hx, k1, k2⟩
        exact ⟨_, rfl, ⟨kind, st, cat, dx, dy, er, lo, hi, rfl, hx⟩, h.1.trans k1, k2.mono (by omega)⟩
      rintro r ⟨kind, st, cat, dx, dy, er, lo, hi, rfl, hx⟩
      simp only [putX]
      refine bl_nil ?_
      try simp only [pick1, List.drop_succ_cons, List.drop_zero]
      refine tl_slice (e := 87) (zs := #[.int .i64 kind, .int .i64 st, .int .i64 cat, .int .i64 tk, .int .i64 dx, .int .i64 dy, .int .i64 er, .int .i64 lo, .int .i64 hi]) rfl ((Wr.stable wq g).and (Stable.ring _ _ _)) (fun W h => hS W h.1) (fun W => by go_simp) (fun bq => ?_)
      simp only [putX]
      refine tl_append rfl (.tmp 103) (.tmp 114) 70 rfl V11.heap.size 87 is_ _ 9 72 Tryz.underlying70 his hs0 hs1 hs2 rfl (by decide) u20 L.length (L.flatMap sightC) rfl bq #[.int .i64 kind, .int .i64 st, .int .i64 cat, .int .i64 tk, .int .i64 dx, .int .i64 dy, .int .i64 er, .int .i64 lo, .int .i64 hi] rfl rfl (by intro u hu; simp at hu; rcases hu with rfl | rfl | rfl | rfl | rfl | rfl | rfl | rfl | rfl <;> rfl) (by unfold maxLen; omega) (by omega) (fun W h => ⟨own_wr HO.out hrr (by decide) h.1.1, h.2, by have := h.1.1.size; have := HW.out.size; omega⟩)
        (fun v' W => (Blk W z 53 #[.slice A1 n1 c1, .int .i64 home, .slice A2 n2 c2, .slice A3 n3 c3] ∧ Blk W (z + 1 + 1 + 1) 30 #[.int .i64 x, .int .i64 y, .int .i64 u, .int .i64 v]) ∧ IsRing w W g (212 + 11 * L.length) ∧ W.ownsRow V11.heap.size 87 9 v' (L.length + 1) (L.flatMap sightC ++ [.int .i64 kind, .int .i64 st, .int .i64 cat, .int .i64 tk, .int .i64 dx, .int .i64 dy, .int .i64 er, .int .i64 lo, .int .i64 hi]) ∧ Wr V11 g W)
        (fun v' => (((Stable.blk _ _ _).and (Stable.blk _ _ _))).and ((Stable.ring _ _ _).and ((Stable.own _ _ _ _ _ _).and (Wr.stable _ _)))) (fun v' W h => h.1) (fun W W' v' h k1 k2 _ => ?_) (fun bk ck => ?_)
      · obtain ⟨⟨q1, q2⟩, q3⟩ := h
        have ho := own_wr HO.out hrr (by decide) q1
        obtain ⟨s1, s2⟩ := hS W q1
        exact ⟨⟨s1.grown k2 (own_blk ho s1 (by decide)), s2.grown k2 (own_blk ho s2 (by decide))⟩, q2.row k2 (q2.ne ho (by decide)) (own_ge ho (by omega)), k1, (HW.out.trans q1).row k2 (own_ge ho (by omega))⟩
      simp only [putX]
      refine tl_val (v := .slice (some ⟨bk, 0, none⟩) (L.length + 1) ck) rfl (((Stable.blk _ _ _).and (Stable.blk _ _ _)).and ((Stable.ring _ _ _).and ((Stable.own _ _ _ _ _ _).and (Wr.stable _ _)))) (fun W h => h.1) (fun W h => by go_simp) ?_
      simp only [putX]
      refine tl_nil ?_
      rintro w8 ⟨_, hr8, ho8, hw8⟩
      have HW8 := Lib.hid hw8
      have HO8 : Hid (w8.ownsRow V11.heap.size 87 9 (.slice (some ⟨bk, 0, none⟩) (L.length + 1) ck) (L ++ [(⟨kind, st, cat, tk, dx, dy, er, lo, hi⟩ : Sight)]).length ((L ++ [(⟨kind, st, cat, tk, dx, dy, er, lo, hi⟩ : Sight)]).flatMap sightC)) := by
        rw [List.length_append, List.flatMap_append]
        exact ho8
      clear c_b10 f_b10 l_b10 c_b13 f_b13 l_b13
      clear ho8 hw8 b10 b13 hS HO HW hrr hsq
      go_wp2_with fail
      go_roundw
      case rel =>
        refine ⟨m - 1, L ++ [⟨kind, st, cat, tk, dx, dy, er, lo, hi⟩], by go_num, by simp; omega, Lib.hid fun y' hy => ?_, HO8, HW8, hr8.mono (by simp; omega)⟩
        rcases List.mem_append.1 hy with hy | hy
        · exact HG.out y' hy
        · rw [List.mem_singleton.1 hy]
          exact hx
      case measure => simp [intOf]; omega
    · obtain rfl : m = 0 := by omega
      have b11 := HB11.out.wr HW.out (by omega)
      have E0 := Lib.hid (Wr.ext HW.out E2 r2.ge)
      have hCq := Bxs.wr r2 HW.out (HC11.out _ (Ext.refl _))
      obtain ⟨Bs, ds, rfl, hSg⟩ := own_sl sight_len (sight_read wq) HO.out
      obtain ⟨bC, oC, hAc, _⟩ := hCq.at_ (by omega)
      subst hAc
      have hv := (set_ok T3.out).2
      have h0 : C ≠ [] := fun e => by rw [e] at hC1; simp at hC1
      have HU1 := Lib.hid fun A' c' W (hW : Ext wq W) (h : Bxs W A' C.length C) => oUpdate_c A1 n1 c1 home A2 n2 c2 A3 n3 c3 s ⟨⟨ll, lh⟩, ⟨el, eh⟩, gs⟩ 1 A' _ c' C (K : Int) Bs _ ds L W (hsq.ext hW) h (Sights.ext hW hSg)
      have HU2 := Lib.hid fun A' c' W (hW : Ext wq W) (h : Bxs W A' C.length C) => oUpdate_c A1 n1 c1 home A2 n2 c2 A3 n3 c3 s ⟨⟨ll, lh⟩, ⟨el, eh⟩, gs⟩ 1 A' _ c' C (K : Int) none 0 0 [] W (hsq.ext hW) h (SlR.nil _ _ _)
      have HU3 := Lib.hid fun A' c' W (hW : Ext wq W) (h : Bxs W A' (C.length - 1) C.dropLast) => oUpdate_c A1 n1 c1 home A2 n2 c2 A3 n3 c3 s ⟨⟨ll, lh⟩, ⟨el, eh⟩, gs⟩ 1 A' _ c' C.dropLast (K : Int) Bs _ ds L W (hsq.ext hW) h (Sights.ext hW hSg)
      have HLW := Lib.hid fun h1 h2 h3 => packs_law2 (s := s) (d := ⟨⟨ll, lh⟩, ⟨el, eh⟩, gs⟩) (t := 1) (k := (K : Int)) (C := C) (sg := L) hv h0 h1 h2 h3
      generalize updErr s ⟨⟨ll, lh⟩, ⟨el, eh⟩, gs⟩ 1 C (K : Int) L = e1 at *
      generalize updErr s ⟨⟨ll, lh⟩, ⟨el, eh⟩, gs⟩ 1 C (K : Int) [] = e2 at *
      generalize updErr s ⟨⟨ll, lh⟩, ⟨el, eh⟩, gs⟩ 1 C.dropLast (K : Int) L = e3 at *
      generalize updL s ⟨⟨ll, lh⟩, ⟨el, eh⟩, gs⟩ 1 C (K : Int) L = U at *
      generalize updL s ⟨⟨ll, lh⟩, ⟨el, eh⟩, gs⟩ 1 C (K : Int) [] = Vn at *
      generalize updL s ⟨⟨ll, lh⟩, ⟨el, eh⟩, gs⟩ 1 C.dropLast (K : Int) L = Wd at *
      dsimp only at HU1 HU2 HU3
      have HD : Hid (∀ W, Bxs W (some ⟨bC, oC, none⟩) C.length C → Bxs W (some ⟨bC, oC, none⟩) (C.length - 1) C.dropLast) := Lib.hid fun W h => by
        rw [List.dropLast_eq_take]
        exact h.first (by omega)
      have HCq := Lib.hid fun W (hW : Ext wq W) => Bxs.ext hW hCq
      clear c_b13 f_b13 l_b13
      clear hv h0 hSg hsq HO HG HW hrr HB10 HB11 HB13 HSK HMS HC11 hCq r2 HW3 hr3 b13 T3 HDR E2
      obtain ⟨q, hq⟩ : ∃ q, C.length = q + 1 := ⟨C.length - 1, by omega⟩
      rw [hq] at HU1 HU2 HU3 HD HCq hcc ⊢
      rw [Nat.add_sub_cancel] at HU3 HD
      obtain ⟨ic, hic, hc0, hc1, hc2⟩ := info_parts info_box
      have q60 : q ≤ 60 := by omega
      clear hq hC1 hC2
      have c_b11 := b11.cell; have f_b11 := b11.frozen; have l_b11 := b11.lt
      have E : Ext wq wq := Ext.refl _
      go_wp2_with fail
      refine (HU1.out _ cc wq E (HCq.out _ E)).mono ?_
      rintro e V20 ⟨v20, rfl, ho20, hV20⟩
      obtain ⟨A20, c20, rfl, hs20, hk20⟩ := ho20.cap
      have HU20 := Lib.hid fun W (hW : Ext V20 W) => Bxs.ext hW hs20
      clear c_b10 f_b10 l_b10; replace b10 := b10.ext hV20; clear c_b11 f_b11 l_b11; replace b11 := b11.ext hV20; replace E := Ext.trans E hV20; clear hV20; have c_b10 := b10.cell; have f_b10 := b10.frozen; have l_b10 := b10.lt; have c_b11 := b11.cell; have f_b11 := b11.frozen; have l_b11 := b11.lt
      clear ho20 hs20 HU1
      go_wp2_with fail
      refine (HU2.out _ cc V20 E (HCq.out _ E)).mono ?_
      rintro e V21 ⟨v21, rfl, ho21, hV21⟩
      obtain ⟨A21, c21, rfl, hs21, _⟩ := ho21.cap
      have HU21 := Lib.hid fun W (hW : Ext V21 W) => HU20.out W (hV21.trans hW)
      have HV21 := Lib.hid fun W (hW : Ext V21 W) => Bxs.ext hW hs21
      clear c_b10 f_b10 l_b10; replace b10 := b10.ext hV21; clear c_b11 f_b11 l_b11; replace b11 := b11.ext hV21; replace E := Ext.trans E hV21; clear hV21; have c_b10 := b10.cell; have f_b10 := b10.frozen; have l_b10 := b10.lt; have c_b11 := b11.cell; have f_b11 := b11.frozen; have l_b11 := b11.lt
      clear ho21 hs21 HU2 HU20
      have q1 : (0 : Int) ≤ (q : Int) := by omega
      have q2 : (q : Int) ≤ (cc : Int) := by omega
      have q3 : q ≤ cc := by omega
      go_wp2_with fail
      refine wp_region_chain0 false [([0, 1, 2, 3, 4, 5, 6, 7, 8], 9)] [10, 11, 12, 13, 14] [] (Ext V21) (Ext V21) (Stable.ext _) (fun _ h => h) (Ext.drew (Ext.refl _)) (by kernel_rfl) (by kernel_rfl) ?_
      simp only [XO, pick, List.drop_succ_cons, List.drop_zero]
      (repeat' (first | (refine bl_off (by rfl) ?_; simp only [putX]) | (apply bl_op; rfl; (intro w1 h1; obtain ⟨hc, hf, hz⟩ := bcell h1; go_simp; (try go_bits); (first | exact ⟨rfl, Ext.refl _⟩)); simp only [putX]) | (refine bl_split rfl rfl (fun hx => ?_) (fun hx => ?_) <;> simp only [hx])))
      refine bl_nil ?_
      try simp only [pick1, List.drop_succ_cons, List.drop_zero]
      refine xe_callV (f := 54) (args := #[.agg #[.slice A1 n1 c1, .int .i64 home, .slice A2 n2 c2, .slice A3 n3 c3], .agg #[.int .i64 ll, .int .i64 lh, .int .i64 el, .int .i64 eh, .int .i64 gs], .int .i64 1, .slice (some ⟨bC, oC, none⟩) q cc, .int .i64 (K : Int), .slice Bs L.length ds]) (fun v => ∃ A' c', v = .tuple #[.slice A' Wd.length c', .int .i64 e3]) (fun v W => Ext V21 W ∧ ∀ A' m' c' e', v = .tuple #[.slice A' m' c', e'] → Bxs W A' Wd.length Wd) rfl (fun v => (Stable.ext _).and (fun W W' h e A' m' c' e' hv => Bxs.ext e (h A' m' c' e' hv))) (fun v W h => h.1) (fun w h => by go_simp) (fun w h => ?_) ?_
      · refine (HU3.out _ cc w (E.trans h) (HD.out w (HCq.out w (E.trans h)))).mono ?_
        rintro e w' ⟨v9, rfl, ho9, k3⟩
        obtain ⟨A9, c9, rfl, hs9, _⟩ := ho9.cap
        refine ⟨_, rfl, ⟨A9, c9, rfl⟩, h.trans k3, ?_⟩
        intro A'' m'' c'' e'' hv
        injection hv with hv
        injection hv with hv
        injection hv with hv _
        injection hv with hv1 hv2 hv3
        rw [← hv1]
        exact hs9
      rintro r ⟨A22, c22, rfl⟩
      simp only [putX]
      (repeat' (first | (refine bl_off (by rfl) ?_; simp only [putX]) | (apply bl_op; rfl; (intro w1 h1; obtain ⟨hc, hf, hz⟩ := bcell h1; go_simp; (try go_bits); (first | exact ⟨rfl, Ext.refl _⟩)); simp only [putX]) | (refine bl_split rfl rfl (fun hx => ?_) (fun hx => ?_) <;> simp only [hx])))
      refine bl_nil ?_
      refine tl_nil ?_
      rintro V22 ⟨h22, hW22⟩
      have hW22 := hW22 _ _ _ _ rfl
      have HU22 := Lib.hid fun W (hW : Ext V22 W) => HU21.out W (h22.trans hW)
      have HV22 := Lib.hid fun W (hW : Ext V22 W) => HV21.out W (h22.trans hW)
      have HW22 := Lib.hid fun W (hW : Ext V22 W) => Bxs.ext hW hW22
      replace E := E.trans h22
      clear c_b10 f_b10 l_b10 c_b11 f_b11 l_b11
      clear b10 b11 h22 hW22 HU21 HV21 HU3 HD HCq
      by_cases z1 : e1 = 0
      · by_cases z2 : e2 = 0
        · by_cases z3 : e3 = 0
          · obtain ⟨j1, j2, j3, j4⟩ := HLW.out z1 z2 z3
            subst z1 z2 z3
            have J1 := Lib.hid fun W (hW : Ext V22 W) => oWithinSet_c A20 A21 _ _ c20 c21 U Vn W (HU22.out W hW) (HV22.out W hW)
            rw [j1] at J1
            have J2 := Lib.hid fun W (hW : Ext V22 W) => HSB.out A20 Wd.length c20 A22 Wd.length c22 Wd W (by have h := (HU22.out W hW).first j2; rw [j3] at h; exact h) (HW22.out W hW)
            have hu1 := (HU22.out V22 (Ext.refl _)).le
            clear HU22 HV22 HW22 HLW j1 j3 HSB
            generalize U.length = nu at *
            generalize Wd.length = nw at *
            generalize Vn.length = nv at *
            have i1 : (0 : Int) ≤ (nw : Int) := by omega
            have i2 : (nw : Int) ≤ (c20 : Int) := by omega
            have i3 : (nw : Int) ≤ (nu : Int) := by omega
            have i4 : (nu : Int) - (nw : Int) ≤ 1 := by omega
            have i5 : nw ≤ c20 := by omega
            have i6 : (nu : Int) ≤ 9223372036854775807 := by omega
            go_wp2_with fail
            refine (J1.out V22 (Ext.refl _)).mono ?_
            rintro e V23 ⟨rfl, h23⟩
            go_wp2_with fail
            refine (J2.out V23 h23).mono ?_
            rintro e V24 ⟨rfl, h24⟩
            have e24 := h23.trans h24
            clear h23 h24 J1 J2
            go_wp2_with fail
            refine (HA.out _).mono ?_
            rintro e w25 ⟨rfl, h25⟩
            obtain ⟨hc_w25, hf_w25, hz_w25⟩ := bcell h25; (try simp only [szA] at hz_w25); (try have := wz0 w w25); (try have := wz1 w w25); (try have := wz2 w w25); (try have := wz3 w w25); (try have := wz4 w w25)
            go_wp2_with fail
            go_ret
            exact ⟨rfl, E0.out.trans (E.trans (e24.trans ext_by))⟩
          · clear HLW
            subst z1 z2
            go_wp2_with fail
            refine (HA.out _).mono ?_
            rintro e w23 ⟨rfl, h23⟩
            obtain ⟨hc_w23, hf_w23, hz_w23⟩ := bcell h23; (try simp only [szA] at hz_w23); (try have := wz0 w w23); (try have := wz1 w w23); (try have := wz2 w w23); (try have := wz3 w w23); (try have := wz4 w w23)
            go_wp2_with fail
            go_ret
            exact ⟨rfl, E0.out.trans (E.trans ext_by)⟩
        · clear HLW
          subst z1
          go_wp2_with fail
          refine (HA.out _).mono ?_
          rintro e w23 ⟨rfl, h23⟩
          obtain ⟨hc_w23, hf_w23, hz_w23⟩ := bcell h23; (try simp only [szA] at hz_w23); (try have := wz0 w w23); (try have := wz1 w w23); (try have := wz2 w w23); (try have := wz3 w w23); (try have := wz4 w w23)
          go_wp2_with fail
          go_ret
          exact ⟨rfl, E0.out.trans (E.trans ext_by)⟩
      · clear HLW
        go_wp2_with fail
        refine (HA.out _).mono ?_
        rintro e w23 ⟨rfl, h23⟩
        obtain ⟨hc_w23, hf_w23, hz_w23⟩ := bcell h23; (try simp only [szA] at hz_w23); (try have := wz0 w w23); (try have := wz1 w w23); (try have := wz2 w w23); (try have := wz3 w w23); (try have := wz4 w w23)
        go_wp2_with fail
        go_ret
        exact ⟨rfl, E0.out.trans (E.trans ext_by)⟩
end Go.Proofs.YtfniicgoeljmdaaGreat

namespace Go.Proofs.YtfniicgoeljmdaaGreat
open Go.RowKit Go.ChangeShapes Go.WideShapes Go.ChangeAt

set_option maxRecDepth 100000 in
set_option maxHeartbeats 1000000 in
theorem opacks_lifted (os : Os) (started : os.Started) (H : Type) (enc : TypeId × Value → H) :
    ReturnsInHanded {} Tryz.checked os 15 .any (Rows.orbitPacksSpec.pre6 enc Tryz.prog Tryz.f15 Rows.orbitPacksRow.domain false) (Rows.orbitPacksSpec.post enc Tryz.prog Tryz.f15 false true false false) := by
  refine returnsInHanded_of_change (C := Tryz.checked) own started (by kernel_rfl) Tryz.func15
    (ChangeSpec.witness6 (enc := enc) (C := Tryz.checked) false ⟨#[], #[.slice none 0 0, .int .i64 0, .int .i64 0, .int .i64 0], []⟩ 8 (by kernel_rfl) (by kernel_rfl) (by kernel_rfl) (by kernel_rfl)) ?_
  intro W base args ds gs before hval0 hW _ _
  have hval : ∀ (j : Nat) t v, Tryz.f15.params[j]? = some t → args[j]? = some v → Value.okWide Tryz.prog W .any base t v := hval0
  have hW' := hW
  obtain ⟨p, q, hA0, hV, rfl, hfz, hnd⟩ := hW
  have hA : DataW.TrodAll enc Tryz.prog W 0 (fun _ => true) true Tryz.f15.params.toList args.toList ds p := hA0
  rw [Tryz.params15] at hA hval
  obtain ⟨v0, vs0, d0, ds0, p0, q0, hargs, rfl, rfl, h0, r0⟩ := trodAll_cons hA
  obtain ⟨v1, vs1, d1, ds1, p1, q1, rfl, rfl, rfl, h1, r1⟩ := trodAll_cons r0
  obtain ⟨v2, vs2, d2, ds2, p2, q2, rfl, rfl, rfl, h2, r2⟩ := trodAll_cons r1
  obtain ⟨v3, vs3, d3, ds3, p3, q3, rfl, rfl, rfl, h3, r3⟩ := trodAll_cons r2
  obtain ⟨rfl, rfl, rfl⟩ := trodAll_nil r3
  obtain ⟨rfl, rfl⟩ := trodVars_none hV
  obtain rfl : args = #[v0, v1, v2, v3] := by cases args; simp_all
  obtain ⟨A0, len0, cap0, rfl⟩ := okWide_slice Tryz.underlying48 (hval 0 _ v0 rfl rfl)
  obtain ⟨fuel0, h0⟩ := h0
  obtain ⟨A_0, n_0, c_0, l_0, e0, hl0⟩ := open_ints h0
  injection e0 with e0 _; injection e0 with e0a e0b e0c; subst e0a e0b e0c
  obtain ⟨m1, rfl⟩ := okWide_int Tryz.underlying3 (hval 1 _ v1 rfl rfl)
  obtain ⟨m2, rfl⟩ := okWide_int Tryz.underlying3 (hval 2 _ v2 rfl rfl)
  obtain ⟨m3, rfl⟩ := okWide_int Tryz.underlying3 (hval 3 _ v3 rfl rfl)
  refine (OrbitPacks_c A0 len0 cap0 l_0 _ _ _ W hl0   ).mono fun e W' ⟨he, hb⟩ => ?_
  subst he
  exact ⟨_, rfl, law_post (by kernel_rfl) rfl rfl hW' rfl hb⟩

end Go.Proofs.YtfniicgoeljmdaaGreat
