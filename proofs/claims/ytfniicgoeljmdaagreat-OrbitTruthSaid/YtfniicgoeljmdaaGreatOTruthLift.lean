/- More small tools for the walks of the laws that make their arguments by numbers. No condition. What OrbitKeeps leans on besides the walk. Plain law. No condition. What OrbitPacks leans on besides the walk. Plain law. No condition. Propagating m ticks and then n is propagating m and n; updating without sights is propagating. Plain law. No condition. The truth stays in the sets. Plain law. No condition. OrbitTruth, walked: it returns true. No condition. OrbitTruth, lifted to what the statement says of a run. No condition. -/
import Derived.Test.YtfniicgoeljmdaaGreatWitness
import Derived.Test.YtfniicgoeljmdaaGreatCellsWalk
import Derived.Test.YtfniicgoeljmdaaGreatUpdateAll
import Derived.Test.YtfniicgoeljmdaaGreatMade
import Derived.Test.YtfniicgoeljmdaaGreatOwnBoxes
import Derived.Test.YtfniicgoeljmdaaGreatStep
import Derived.Test.YtfniicgoeljmdaaGreatAwakeFour
import Derived.Test.YtfniicgoeljmdaaGreatTruthOf
import Derived.Test.YtfniicgoeljmdaaGreatOpen2
import Derived.Test.YtfniicgoeljmdaaGreatLaw
namespace Go.Proofs.YtfniicgoeljmdaaGreat
open Go.RowKit

theorem set_of {L : List Bx} (h1 : L.length ≤ 512) (h2 : ∀ b ∈ L, bxErr b = 0) : setErr L = 0 := by
  have h : boxesErr L = 0 := by
    clear h1
    induction L with
    | nil => rfl
    | cons b r ih => rw [boxesErr, if_pos (h2 b (by simp))]; exact ih fun c hc => h2 c (by simp [hc])
  unfold setErr
  rw [if_neg (by omega), h]
theorem drift_of {ll lh el eh gs : Int} (h : (0 ≤ ll ∧ ll ≤ lh ∧ lh ≤ 4) ∧ (-3 ≤ el ∧ el ≤ eh ∧ eh ≤ 3) ∧ 0 ≤ gs ∧ gs ≤ 2) : driftErr ⟨⟨ll, lh⟩, ⟨el, eh⟩, gs⟩ = 0 := by
  unfold driftErr
  rw [if_pos (boundErr_ok.2 (by dsimp only; omega)), if_pos (boundErr_ok.2 (by dsimp only; omega)), if_pos ((within_iff _ _ _).2 (by dsimp only; omega))]
theorem mod_nat (n : Int) {m : Int} (h : 1 ≤ m) : ∃ M : Nat, n % m = (M : Int) ∧ (M : Int) < m := by
  have h0 : 0 ≤ n % m := Int.emod_nonneg _ (by omega)
  have h1 : n % m < m := Int.emod_lt_of_pos _ (by omega)
  exact ⟨(n % m).toNat, by omega, by omega⟩
theorem ModN_c {n m : Int} {M : Nat} (w : World) (hM : n % m = (M : Int)) (h0 : 1 ≤ m) (h1 : m ≤ 4611686018427387904) :
    Calls Tryz.prog 53 #[.int .i64 n, .int .i64 m] w fun e w' => e = .returned (.int .i64 (M : Int)) ∧ Ext w w' :=
  (Mod_c n m w h0 h1).mono fun _ _ ⟨h, hw⟩ => ⟨hM ▸ h, hw ▸ Ext.refl _⟩
theorem cells_made {b : Bx} (hb : bxErr b = 0) {M : Nat} (hM : M < 100) : cellsL b (1 + (M : Int)) = cellsB b (M + 1) ∧ cellsErr b (1 + (M : Int)) = 0 ∧ setErr (cellsB b (M + 1)) = 0 := by
  have h : cellsErr b (1 + (M : Int)) = 0 := by unfold cellsErr; rw [if_neg (by simp [hb]), if_neg (by omega)]
  obtain ⟨_, q2, _, q4⟩ := cells_law (b := b) (n := M + 1) hb (by omega)
  refine ⟨?_, h, set_of (by omega) fun c hc => (q2 c hc).1⟩
  unfold cellsL
  rw [if_pos h, show (1 + (M : Int)).toNat = M + 1 by omega]
end Go.Proofs.YtfniicgoeljmdaaGreat

namespace Go.Proofs.YtfniicgoeljmdaaGreat
open Go.RowKit

theorem in_cells {b : Bx} {n : Nat} {p : St} (h : bxErr b = 0) (hn : 1 ≤ n) (hp : holdsB b p = true) : inSet (cellsB b n) p = true := by
  have h1 := (cells_law h hn).1 p
  rw [if_pos hp] at h1
  unfold countH at h1
  rw [in_iff]
  have h2 : 0 < (cellsB b n).countP fun c => holdsB c p := by omega
  obtain ⟨c, hc, hcp⟩ := List.countP_pos_iff.1 h2
  exact ⟨c, hc, hcp⟩
theorem sgs_made {s : Sky} (hm : MadeSky s) {L : List Sight} (hl : L.length ≤ 64) (h : ∀ y ∈ L, MadeSight s y) : sgsErr s L = 0 := by
  unfold sgsErr
  rw [if_neg (by omega)]
  clear hl
  induction L with
  | nil => rfl
  | cons x r ih => rw [sgsFrom, if_pos (MadeSight.ok hm (h x (by simp)))]; exact ih fun y hy => h y (by simp [hy])
end Go.Proofs.YtfniicgoeljmdaaGreat

namespace Go.Proofs.YtfniicgoeljmdaaGreat
open Go.RowKit

theorem upd_some {s : Sky} {d : Drf} {t k : Int} {C : List Bx} {sg : List Sight} (h : updErr s d t C k sg = 0) : updM s d sg k.toNat t (filtL s t sg C) = some (updL s d t C k sg) := by
  rcases upd_cases s d t C k sg with ⟨_, _, _, _, h5, h6⟩ | ⟨_, h2⟩
  · rw [h] at h5
    rw [h6]
    cases hp : updM s d sg k.toNat t (filtL s t sg C) with
    | none => rw [hp] at h5; simp at h5
    | some K => rfl
  · rcases h2 with ⟨_, h2⟩ | ⟨_, _, h2⟩ | ⟨_, _, _, h2⟩ | ⟨_, _, _, _, h2⟩ <;> exact absurd h h2
end Go.Proofs.YtfniicgoeljmdaaGreat

namespace Go.Proofs.YtfniicgoeljmdaaGreat
open Go.RowKit

theorem way_of {tick ticks : Int} {L : List Bx} (h1 : 0 ≤ ticks ∧ ticks ≤ 400) (h2 : 0 ≤ tick ∧ tick ≤ 1073741824 - ticks) (h3 : setErr L = 0) : wayErr tick ticks L = 0 := by
  unfold wayErr
  rw [if_pos (And.intro h1 h2), h3]
end Go.Proofs.YtfniicgoeljmdaaGreat

namespace Go.Proofs.YtfniicgoeljmdaaGreat
open Go.RowKit

theorem truthF_some {l : List Body} {home : Int} {d : Drf} {t : Int} : ∀ (r : List St) (p : St) (k : Nat), truthF l home d t (some p) r k = -1 → (∀ q ∈ r, stErr q = 0) ∧ ∀ (i : Nat) (a b : St), (p :: r)[i]? = some a → (p :: r)[i + 1]? = some b → followsB l home d (t + ((k + i : Nat) : Int) - 1) a b = true
  | [], p, k, _ => ⟨by simp, fun i a b _ h => by simp at h⟩
  | s :: r, p, k, h => by
    rw [truthF] at h
    by_cases hc : stErr s = 0 ∧ followsB l home d (t + k - 1) p s = true
    · rw [if_pos hc] at h
      obtain ⟨h1, h2⟩ := truthF_some r s (k + 1) h
      refine ⟨fun q hq => ?_, fun i a b ha hb => ?_⟩
      · rcases List.mem_cons.1 hq with rfl | hq
        · exact hc.1
        · exact h1 q hq
      · cases i with
        | zero =>
          simp only [List.getElem?_cons_zero, Option.some.injEq] at ha
          simp only [List.getElem?_cons_succ, List.getElem?_cons_zero, Option.some.injEq] at hb
          subst ha hb
          exact hc.2
        | succ i =>
          have := h2 i a b (by simpa using ha) (by simpa using hb)
          rw [show k + 1 + i = k + (i + 1) by omega] at this
          exact this
    · rw [if_neg hc] at h
      omega
theorem truth_all {l : List Body} {home : Int} {d : Drf} {t : Int} {T : List St} (h : truthM l home d t T = -1) : (∀ q ∈ T, stErr q = 0) ∧ ∀ (i : Nat) (a b : St), T[i]? = some a → T[i + 1]? = some b → followsB l home d (t + i) a b = true := by
  unfold truthM at h
  split at h
  · cases T with
    | nil => exact ⟨by simp, fun i a b h => by simp at h⟩
    | cons s r =>
      rw [truthF] at h
      by_cases hs : stErr s = 0
      · rw [if_pos hs] at h
        obtain ⟨h1, h2⟩ := truthF_some r s (0 + 1) h
        refine ⟨fun q hq => ?_, fun i a b ha hb => ?_⟩
        · rcases List.mem_cons.1 hq with rfl | hq
          · exact hs
          · exact h1 q hq
        · have := h2 i a b ha hb
          rw [show t + ((0 + 1 + i : Nat) : Int) - 1 = t + i by omega] at this
          exact this
      · rw [if_neg hs] at h; cases h
  · cases h
theorem follows_next {l : List Body} {home : Int} {d : Drf} {t : Int} {p q : St} (M : Moves l home d t) (hp : stErr p = 0) (h : followsB l home d t p q = true) : nextTo l home d t p q := by
  have ho := M.over (pt_valid hp).2
  unfold followsB at h
  unfold ptA at ho
  rw [ho] at h
  simp only [Bool.and_eq_true, decide_eq_true_eq, within_iff, and_assoc] at h
  unfold nextTo ptA
  omega
theorem truth_law {s : Sky} {d : Drf} {t : Int} {C : List Bx} {sg : List Sight} {T : List St} {n : Nat} (hm : MadeSky s) (hd : driftErr d = 0) (ht : 0 ≤ t ∧ t ≤ 1000) (hC : setErr C = 0) (hT : truthM s.world.bodies s.world.home d t T = -1) (hl : T.length ≤ 20) (hn : n < T.length)
    (h0 : ∀ p, T[0]? = some p → inSet C p = true) (hg : sg.length ≤ 64) (hs : ∀ y ∈ sg, MadeSight s y ∧ ∃ (i : Nat) (p : St), T[i]? = some p ∧ y.tick = t + i ∧ agreesAll s y p.x p.y = true) :
    (updErr s d t C n sg = 0 → inSet (updL s d t C n sg) (T[n]'hn) = true) ∧ (propErr s.world.bodies s.world.home d t C n = 0 → inSet (propL s.world.bodies s.world.home d t C n) (T[n]'hn) = true) ∧
      (updErr s d t C n sg = 0 ∨ updErr s d t C n sg = 14) ∧ (propErr s.world.bodies s.world.home d t C n = 0 ∨ propErr s.world.bodies s.world.home d t C n = 14) := by
  obtain ⟨a1, a2⟩ := truth_all hT
  have hw := sky_wd hm.ok hd
  have hway : wayErr t n C = 0 := way_of (by omega) (by omega) hC
  have hsg := sgs_made hm hg fun y hy => (hs y hy).1
  obtain ⟨e1, l1⟩ := prop_err hw hway
  have hv := (set_ok hC).2
  rw [Int.toNat_natCast] at e1 l1
  let F : Nat → St := fun i => T.getD i ⟨0, 0, 0, 0⟩
  have hF : ∀ i, i < T.length → T[i]? = some (F i) := fun i hi => by simp [F, List.getD_eq_getElem?_getD, List.getElem?_eq_getElem hi]
  have hFn : T[n]'hn = F n := by
    have := hF n hn
    rw [List.getElem?_eq_getElem hn] at this
    injection this
  have hM : ∀ j < n, Moves s.world.bodies s.world.home d (t + j) := fun j hj => moves_of hw (by omega)
  have hN : ∀ j < n, nextTo s.world.bodies s.world.home d (t + j) (F j) (F (j + 1)) := fun j hj =>
    follows_next (hM j hj) (a1 _ (List.mem_of_getElem? (hF j (by omega)))) (a2 j _ _ (hF j (by omega)) (hF (j + 1) (by omega)))
  have hW : ∀ j, j < T.length → witB s (t + j) sg (F j) := fun j hj y hy hty => by
    obtain ⟨_, i, p, hp, hyt, hag⟩ := hs y hy
    have hij : i = j := by omega
    subst hij
    rw [hF i hj] at hp
    injection hp with hp
    rw [hp]; exact hag
  have hi0 := h0 _ (hF 0 (by omega))
  have hN2 : ∀ j < n, nextTo s.world.bodies s.world.home d (t + j) (F (0 + j)) (F (0 + j + 1)) := fun j hj => by rw [Nat.zero_add]; exact hN j hj
  refine ⟨fun h => ?_, fun h => ?_, ?_, ?_⟩
  · have hu := upd_some h
    rw [Int.toNat_natCast] at hu
    rw [hFn]
    have := upd_truth F n t 0 _ _ hM (filt_ok hv) (filt_in (by have := hW 0 (by omega); simpa using this) hi0) (fun j hj => ⟨hN2 j hj, by
      have := hW (j + 1) (by omega)
      rw [Nat.zero_add, show t + (j : Int) + 1 = t + ((j + 1 : Nat) : Int) by omega]
      exact this⟩) hu
    rw [Nat.zero_add] at this
    exact this
  · rw [e1] at h
    rw [hFn, l1]
    cases hp : propM s.world.bodies s.world.home d n t C with
    | none => rw [hp] at h; cases h
    | some K =>
      rw [← upd_none] at hp
      have := upd_truth F n t 0 _ _ hM hv hi0 (fun j hj => ⟨hN2 j hj, fun x hx => by cases hx⟩) hp
      rw [Nat.zero_add] at this
      exact this
  · unfold updErr
    rw [if_pos hm.ok, if_pos hd, if_pos hway, if_pos hsg]
    split
    · exact .inl rfl
    · exact .inr rfl
  · rw [e1]
    split
    · exact .inl rfl
    · exact .inr rfl
end Go.Proofs.YtfniicgoeljmdaaGreat

namespace Go.Proofs.YtfniicgoeljmdaaGreat
open Go.RowKit

set_option maxRecDepth 20000 in
set_option maxHeartbeats 8000000 in
theorem OrbitTruth_c (A : Option Addr) (n c : Nat) (l : List Int) (Nc Nt : Int) (w : World) (hl : Ints w A n l) :
    Calls Tryz.prog 14 #[.slice A n c, .int .i64 Nc, .int .i64 Nt] w fun e w' => e = .returned (.bool true) ∧ Ext w w' := by
  have HA := Lib.hid fun W => awake4_c W
  go_enter Tryz.func14, Tryz.ntmps14
  go_wp2_with fail
  refine (made4_c A n c l _ hl).mono ?_
  rintro e w1 ⟨g, A1, n1, c1, home, A2, n2, c2, A3, n3, c3, s, ll, lh, el, eh, gs, b, x, y, u, v, bs, rfl, hF, hsky, hms, hgas, hsm, hx0⟩
  have E1 := hF.ext
  have r1 := hF.ring
  have hhome := hsky.home
  have HSM := Lib.hid hsm
  have HX0 := Lib.hid hx0
  have hbx : (-40000000 ≤ x ∧ x ≤ 40000000) ∧ (-40000000 ≤ y ∧ y ≤ 40000000) ∧ (-2000000 ≤ u ∧ u ≤ 2000000) ∧ -2000000 ≤ v ∧ v ≤ 2000000 := by unfold smallB at hsm; unfold inBx at hx0; dsimp only at hx0; omega
  have HMS := Lib.hid hms
  have HDR := Lib.hid (drift_of hgas)
  have hwd : Hid (wdErr s.world.bodies home ⟨⟨ll, lh⟩, ⟨el, eh⟩, gs⟩ = 0) := Lib.hid (by rw [hhome]; exact sky_wd hms.ok (drift_of hgas))
  have HHM := Lib.hid hhome
  clear hsm hx0 hF hl hgas hms hhome
  go_wp2_with fail
  obtain ⟨V, hV⟩ : ∃ W, W = ((((w1.alloc (.cells #[.slice A1 n1 c1, .int .i64 home, .slice A2 n2 c2, .slice A3 n3 c3] 53)).alloc (.cells #[.int .i64 ll, .int .i64 lh, .int .i64 el, .int .i64 eh, .int .i64 gs] 28)).alloc (.cells #[.int .i64 b.x.lo, .int .i64 b.x.hi, .int .i64 b.y.lo, .int .i64 b.y.hi, .int .i64 b.u.lo, .int .i64 b.u.hi, .int .i64 b.v.lo, .int .i64 b.v.hi] 38)).alloc (.cells #[.int .i64 x, .int .i64 y, .int .i64 u, .int .i64 v] 30)) := ⟨_, rfl⟩
  rw [← hV]
  obtain ⟨z, hz⟩ : ∃ z, z = w1.heap.size := ⟨_, rfl⟩
  have B8 : Blk V z 53 #[.slice A1 n1 c1, .int .i64 home, .slice A2 n2 c2, .slice A3 n3 c3] := by rw [hV]; exact (((Blk.newAt hz).alloc _).alloc _).alloc _
  have B9 : Blk V (z + 1) 28 #[.int .i64 ll, .int .i64 lh, .int .i64 el, .int .i64 eh, .int .i64 gs] := by rw [hV]; exact ((Blk.newAt (by simp [hz])).alloc _).alloc _
  have B10 : Blk V (z + 1 + 1) 38 #[.int .i64 b.x.lo, .int .i64 b.x.hi, .int .i64 b.y.lo, .int .i64 b.y.hi, .int .i64 b.u.lo, .int .i64 b.u.hi, .int .i64 b.v.lo, .int .i64 b.v.hi] := by rw [hV]; exact (Blk.newAt (by simp [hz])).alloc _
  have B11 : Blk V (z + 1 + 1 + 1) 30 #[.int .i64 x, .int .i64 y, .int .i64 u, .int .i64 v] := by rw [hV]; exact Blk.newAt (by simp [hz])
  have EV : Ext w1 V := by rw [hV]; exact ext_by
  have hgz : g < z := by have := r1.lt; omega
  rw [← hz]
  clear hV hz
  have r2 := r1.keep EV
  have hsk2 := hsky.ext EV
  have E2 := E1.trans EV
  clear r1 hsky E1 EV
  refine (Next_c w g 200 5 V r2 (by omega) (by omega) (by omega)).mono ?_
  rintro e w3 ⟨tk, rfl, va3, vb3, hw3, hr3⟩
  have E3 := Wr.ext hw3 E2 r2.ge
  have hsk3 := hsk2.wr r2 hw3
  replace B8 := B8.wr hw3 (by omega)
  replace B9 := B9.wr hw3 (by omega)
  replace B10 := B10.wr hw3 (by omega)
  replace B11 := B11.wr hw3 (by omega)
  clear hw3 r2 hsk2 E2
  obtain ⟨M, hM, hM1⟩ := mod_nat Nt (m := 9) (by omega)
  have HM := Lib.hid fun W => ModN_c W hM (by omega) (by omega)
  clear hM
  have c_B8 := B8.cell; have f_B8 := B8.frozen; have l_B8 := B8.lt; have c_B9 := B9.cell; have f_B9 := B9.frozen; have l_B9 := B9.lt; have c_B10 := B10.cell; have f_B10 := B10.frozen; have l_B10 := B10.lt; have c_B11 := B11.cell; have f_B11 := B11.frozen; have l_B11 := B11.lt
  go_wp2_with fail
  have hS : ∀ W, Wr w3 g W → Blk W z 53 #[.slice A1 n1 c1, .int .i64 home, .slice A2 n2 c2, .slice A3 n3 c3] ∧ Blk W (z + 1) 28 #[.int .i64 ll, .int .i64 lh, .int .i64 el, .int .i64 eh, .int .i64 gs] ∧ Blk W (z + 1 + 1 + 1) 30 #[.int .i64 x, .int .i64 y, .int .i64 u, .int .i64 v] := fun W h => ⟨B8.wr h (by omega), B9.wr h (by omega), B11.wr h (by omega)⟩
  refine wp_region_chain0 false [([0, 1, 2, 3, 4, 5, 6, 7], 8)] [9] [] (fun W => Blk W z 53 #[.slice A1 n1 c1, .int .i64 home, .slice A2 n2 c2, .slice A3 n3 c3] ∧ Blk W (z + 1) 28 #[.int .i64 ll, .int .i64 lh, .int .i64 el, .int .i64 eh, .int .i64 gs] ∧ Blk W (z + 1 + 1 + 1) 30 #[.int .i64 x, .int .i64 y, .int .i64 u, .int .i64 v]) (fun W => Wr w3 g W ∧ IsRing w W g 201) ((Wr.stable w3 g).and (Stable.ring _ _ _)) (fun W h => hS W h.1) ⟨(Wr.refl _ _).drew, (hr3.mono (by omega)).drew⟩ (by kernel_rfl) (by kernel_rfl) ?_
  simp only [XO, pick, List.drop_succ_cons, List.drop_zero]
  repeat' (first | (refine bl_off (by rfl) ?_; simp only [putX]) | (apply bl_op; rfl; (intro w1 h1; obtain ⟨hq6, hq7, hq8⟩ := h1; have hc6 := hq6.cell; have hl6 := hq6.lt; have hc7 := hq7.cell; have hl7 := hq7.lt; have hc8 := hq8.cell; have hl8 := hq8.lt; go_simp; (try go_bits); (first | exact ⟨rfl, Ext.refl _⟩ | (apply gives_call; go_at_call 53; exact HM.out _) | (go_invoke; go_simp; apply gives_call; go_at_call 53; exact HM.out _))); simp only [putX]) | (refine bl_split rfl rfl (fun hx => ?_) (fun hx => ?_) <;> simp only [hx]))
  refine bl_nil ?_
  try simp only [pick1, List.drop_succ_cons, List.drop_zero]
  refine xe_callV (f := 65) (args := #[.pointer (some ⟨g, 0, none⟩), .agg #[.slice A1 n1 c1, .int .i64 home], .agg #[.int .i64 ll, .int .i64 lh, .int .i64 el, .int .i64 eh, .int .i64 gs], .int .i64 tk, .agg #[.int .i64 x, .int .i64 y, .int .i64 u, .int .i64 v], .int .i64 (M : Int)]) (fun _ => True) (fun r W => Wr w3 g W ∧ IsRing w W g 301 ∧ ∃ T : List St, W.ownsRow w3.heap.size 30 4 r T.length (T.flatMap stC4) ∧ T.length = M + 1 ∧ T.head? = some ⟨x, y, u, v⟩) rfl (fun r W W' h e => ⟨Wr.stable w3 g _ _ h.1 e, h.2.1.keep e, h.2.2.elim fun T hT => ⟨T, own_ext_keep hT.1 e, hT.2⟩⟩) (fun r W h => hS W h.1) (fun w h => by go_simp) (fun W h => ?_) ?_
  · refine (TruthOf_c w g 201 A1 n1 c1 home s.world.bodies ⟨⟨ll, lh⟩, ⟨el, eh⟩, gs⟩ tk x y u v M W h.2 (by omega) (hsk3.wr hr3 h.1).bodies hwd.out hbx (by omega) (by omega)).mono ?_
    rintro e w' ⟨r, T, rfl, hO, hTl, hT0, hW, hR⟩
    exact ⟨_, rfl, trivial, h.1.trans hW, hR.mono (by omega), T, own_mono hO h.1.size, hTl, hT0⟩
  rintro r -
  simp only [putX]
  (repeat' (first | (refine bl_off (by rfl) ?_; simp only [putX]) | (apply bl_op; rfl; (intro w1 h1; skip; go_simp; (try go_bits); (first | exact ⟨rfl, Ext.refl _⟩)); simp only [putX]) | (refine bl_split rfl rfl (fun hx => ?_) (fun hx => ?_) <;> simp only [hx])))
  refine bl_nil ?_
  refine tl_nil ?_
  rintro V4 ⟨hw4, hr4, T, hO4, hTl, hT0⟩
  obtain ⟨At, ct, rfl, hs4⟩ := own_sl st4_len (fun x b o h => st_read V4 x b o h) hO4
  have hS4 : Sts V4 At T.length T := hs4
  have hsk4 := hsk3.wr hr3 hw4
  clear c_B8 f_B8 l_B8 c_B9 f_B9 l_B9 c_B10 f_B10 l_B10 c_B11 f_B11 l_B11
  replace B8 := B8.wr hw4 (by omega)
  replace B9 := B9.wr hw4 (by omega)
  replace B10 := B10.wr hw4 (by omega)
  replace B11 := B11.wr hw4 (by omega)
  have E := Wr.ext hw4 E3 hr3.ge
  have HT0 := Lib.hid hT0
  have HTL := Lib.hid hTl
  have HBX := Lib.hid hbx
  clear hw4 hO4 hs4 hr3 hsk3 E3 HM hS hT0
  have hTr := Lib.hid fun W (hW : Ext V4 W) => oTruth_c A1 n1 c1 home s.world.bodies ⟨⟨ll, lh⟩, ⟨el, eh⟩, gs⟩ tk At T.length ct T W (Bodies.ext hW hsk4.bodies) (Sts.ext hW hS4) (by omega)
  dsimp only at hTr
  have hall := Lib.hid (truth_all (l := s.world.bodies) (home := home) (d := ⟨⟨ll, lh⟩, ⟨el, eh⟩, gs⟩) (t := tk) (T := T))
  have hlaw := Lib.hid fun C sg n' hC hq hn' h0 hg' hs' => truth_law (s := s) (d := ⟨⟨ll, lh⟩, ⟨el, eh⟩, gs⟩) (t := tk) (C := C) (sg := sg) (T := T) (n := n') HMS.out HDR.out (by omega) hC hq (by omega) hn' h0 hg' hs'
  rw [← HHM.out] at hlaw
  obtain ⟨q, hq⟩ : ∃ q, q = truthM s.world.bodies home ⟨⟨ll, lh⟩, ⟨el, eh⟩, gs⟩ tk T := ⟨_, rfl⟩
  rw [← hq] at hTr hlaw hall
  clear hq hTl
  have c_B8 := B8.cell; have f_B8 := B8.frozen; have l_B8 := B8.lt; have c_B9 := B9.cell; have f_B9 := B9.frozen; have l_B9 := B9.lt; have c_B10 := B10.cell; have f_B10 := B10.frozen; have l_B10 := B10.lt; have c_B11 := B11.cell; have f_B11 := B11.frozen; have l_B11 := B11.lt
  go_wp2_with fail
  refine (hTr.out V4 (Ext.refl _)).mono ?_
  rintro e V5 ⟨rfl, h5⟩
  have hsk5 := hsk4.ext h5
  have hS5 := Sts.ext h5 hS4
  have r5 := hr4.keep h5
  clear c_B8 f_B8 l_B8; replace B8 := B8.ext h5; clear c_B9 f_B9 l_B9; replace B9 := B9.ext h5; clear c_B10 f_B10 l_B10; replace B10 := B10.ext h5; clear c_B11 f_B11 l_B11; replace B11 := B11.ext h5; replace E := Ext.trans E h5; clear h5; have c_B8 := B8.cell; have f_B8 := B8.frozen; have l_B8 := B8.lt; have c_B9 := B9.cell; have f_B9 := B9.frozen; have l_B9 := B9.lt; have c_B10 := B10.cell; have f_B10 := B10.frozen; have l_B10 := B10.lt; have c_B11 := B11.cell; have f_B11 := B11.frozen; have l_B11 := B11.lt
  clear hsk4 hS4 hr4 hTr
  rcases Decidable.em (¬ q = -1) with hq1 | hq1
  · have hqb : (q != -1) = true := by simpa using hq1
    clear hall hlaw
    go_wp2_with fail
    refine (HA.out _).mono ?_
    rintro e w1 ⟨rfl, h1⟩
    obtain ⟨hc_w1, hf_w1, hz_w1⟩ := bcell h1; (try simp only [szA] at hz_w1); (try have := wz0 w w1); (try have := wz1 w w1); (try have := wz2 w w1); (try have := wz3 w w1); (try have := wz4 w w1)
    go_wp2_with fail
    go_ret
    exact ⟨rfl, E.trans ext_by⟩
  replace hq1 := Decidable.of_not_not hq1
  subst hq1
  go_wp2_with fail
  have hst := (hall.out trivial).1
  refine (witness_c w g _ A1 n1 c1 home A2 n2 c2 A3 n3 c3 s tk At T.length ct T V5 r5 (by omega) hsk5 HMS.out hS5 (fun p hp => by have h := (pt_valid (hst p hp)).2; unfold SmA Sm ptA at h; dsimp only at h; omega) (by have := HTL.out; omega) (by omega)).mono ?_
  rintro e V6 ⟨r6, L, rfl, hO6, hLn, hLs, hw6, hr6⟩
  obtain ⟨Bs, ds, rfl, hs6⟩ := own_sl sight_len (fun x b o h => sight_read V6 x b o h) hO6
  have hS6 : Sights V6 Bs L.length L := hs6
  have hsk6 := hsk5.wr r5 hw6
  have hT6 := hS5.wr r5 hw6
  clear c_B8 f_B8 l_B8 c_B9 f_B9 l_B9 c_B10 f_B10 l_B10 c_B11 f_B11 l_B11
  replace B8 := B8.wr hw6 (by omega)
  replace B9 := B9.wr hw6 (by omega)
  replace B10 := B10.wr hw6 (by omega)
  replace B11 := B11.wr hw6 (by omega)
  replace E := Wr.ext hw6 E r5.ge
  clear hw6 hO6 hs6 r5 hr6 hsk5 hS5 hst hall
  obtain ⟨K, hK, hK1⟩ := mod_nat Nc (m := 40) (by omega)
  have HM := Lib.hid fun W => ModN_c W hK (by omega) (by omega)
  obtain ⟨t1, t2, t3⟩ := cells_made HSM.out.ok (M := K) (by omega)
  have hin := in_cells (n := K + 1) HSM.out.ok (by omega) HX0.out.holds
  have HCells := Lib.hid fun W => oCells_c b (1 + (K : Int)) W
  rw [t1, t2] at HCells
  generalize cellsB b (K + 1) = C at *
  have HIn0 := Lib.hid fun A' c' W (h : Bxs W A' C.length C) => oIn_c A' _ c' C ⟨x, y, u, v⟩ W h
  rw [hin] at HIn0
  have hlaw2 := Lib.hid fun n' hn' => hlaw.out C L n' t3 trivial hn' (fun p hp => by rw [show T[0]? = T.head? from (List.head?_eq_getElem? ..).symm, HT0.out] at hp; injection hp with hp; rw [← hp]; exact hin) (by have := HTL.out; omega) hLs
  have HUp := Lib.hid fun A' c' (k : Nat) W (hW : Ext V6 W) (h : Bxs W A' C.length C) => oUpdate_c A1 n1 c1 home A2 n2 c2 A3 n3 c3 s ⟨⟨ll, lh⟩, ⟨el, eh⟩, gs⟩ tk A' _ c' C (k : Int) Bs _ ds L W (hsk6.ext hW) h (Sights.ext hW hS6)
  have HPr := Lib.hid fun A' c' (k : Nat) W (hW : Ext V6 W) (h : Bxs W A' C.length C) => oPropagate_c A1 n1 c1 home s.world.bodies ⟨⟨ll, lh⟩, ⟨el, eh⟩, gs⟩ tk A' _ c' C (k : Int) W (Bodies.ext hW hsk6.bodies) h
  have HIn := Lib.hid fun A' n' c' l' s' W (h : Bxs W A' n' l') => oIn_c A' n' c' l' s' W h
  have HTS := Lib.hid fun W (hW : Ext V6 W) => Sts.ext hW hT6
  dsimp only at HUp HPr HIn0
  clear t1 t2 t3 hin hlaw hLs hLn hT6 hS6 hsk6 hK HX0 HSM HT0
  have c_B8 := B8.cell; have f_B8 := B8.frozen; have l_B8 := B8.lt; have c_B9 := B9.cell; have f_B9 := B9.frozen; have l_B9 := B9.lt; have c_B10 := B10.cell; have f_B10 := B10.frozen; have l_B10 := B10.lt; have c_B11 := B11.cell; have f_B11 := B11.frozen; have l_B11 := B11.lt
  go_wp2_with fail
  refine wp_region_chain0 false [([0, 1, 2, 3], 4)] [5, 6, 7, 8, 9] [] (Ext V6) (Ext V6) (Stable.ext _) (fun _ h => h) (Ext.drew (Ext.refl _)) (by kernel_rfl) (by kernel_rfl) ?_
  simp only [XO, pick, List.drop_succ_cons, List.drop_zero]
  (repeat' (first | (refine bl_off (by rfl) ?_; simp only [putX]) | (apply bl_op; rfl; (intro w1 h1; obtain ⟨hc, hf, hz⟩ := bcell h1; go_simp; (try go_bits); (first | exact ⟨rfl, Ext.refl _⟩ | (apply gives_call; go_at_call 53; exact HM.out _) | (go_invoke; go_simp; apply gives_call; go_at_call 53; exact HM.out _))); simp only [putX]) | (refine bl_split rfl rfl (fun hx => ?_) (fun hx => ?_) <;> simp only [hx])))
  refine bl_nil ?_
  try simp only [pick1, List.drop_succ_cons, List.drop_zero]
  refine xe_callV (f := 46) (args := #[bxV b, .int .i64 (1 + (K : Int))]) (fun v => ∃ A' c', v = .tuple #[.slice A' C.length c', .int .i64 0]) (fun v W => Ext V6 W ∧ ∀ A' m' c' e', v = .tuple #[.slice A' m' c', e'] → Bxs W A' C.length C) rfl (fun v => (Stable.ext _).and (fun W W' h e A' m' c' e' hv => Bxs.ext e (h A' m' c' e' hv))) (fun v W h => h.1) (fun w h => by go_simp) (fun w h => ?_) ?_
  · refine (HCells.out w).mono ?_
    rintro e w' ⟨A', c', rfl, k1, k2, k3⟩
    refine ⟨_, rfl, ⟨A', c', rfl⟩, h.trans k3, ?_⟩
    intro A'' m'' c'' e'' hv
    injection hv with hv
    injection hv with hv
    injection hv with hv _
    injection hv with hv1 hv2 hv3
    rw [← hv1]
    exact k1
  rintro r ⟨Ac, cc, rfl⟩
  simp only [putX]
  (repeat' (first | (refine bl_off (by rfl) ?_; simp only [putX]) | (apply bl_op; rfl; (intro w1 h1; obtain ⟨hc, hf, hz⟩ := bcell h1; go_simp; (try go_bits); (first | exact ⟨rfl, Ext.refl _⟩)); simp only [putX]) | (refine bl_split rfl rfl (fun hx => ?_) (fun hx => ?_) <;> simp only [hx])))
  refine bl_nil ?_
  refine tl_nil ?_
  rintro V7 ⟨h7, hC7⟩
  have hC7 := hC7 _ _ _ _ rfl
  have HC7 := Lib.hid fun W (hW : Ext V7 W) => Bxs.ext hW hC7
  have h67 := Lib.hid h7
  clear c_B8 f_B8 l_B8; replace B8 := B8.ext h7; clear c_B9 f_B9 l_B9; replace B9 := B9.ext h7; clear c_B10 f_B10 l_B10; replace B10 := B10.ext h7; clear c_B11 f_B11 l_B11; replace B11 := B11.ext h7; replace E := Ext.trans E h7; clear h7; have c_B8 := B8.cell; have f_B8 := B8.frozen; have l_B8 := B8.lt; have c_B9 := B9.cell; have f_B9 := B9.frozen; have l_B9 := B9.lt; have c_B10 := B10.cell; have f_B10 := B10.frozen; have l_B10 := B10.lt; have c_B11 := B11.cell; have f_B11 := B11.frozen; have l_B11 := B11.lt
  clear hC7 HCells HM
  go_wp2_with fail
  refine (HIn0.out Ac cc V7 (HC7.out _ (Ext.refl _))).mono ?_
  rintro e V8 ⟨rfl, h8⟩
  have HC8 := Lib.hid fun W (hW : Ext V8 W) => HC7.out W (h8.trans hW)
  have h68 := Lib.hid (h67.out.trans h8)
  clear c_B8 f_B8 l_B8; replace B8 := B8.ext h8; clear c_B9 f_B9 l_B9; replace B9 := B9.ext h8; clear c_B10 f_B10 l_B10; replace B10 := B10.ext h8; clear c_B11 f_B11 l_B11; replace B11 := B11.ext h8; replace E := Ext.trans E h8; clear h8; have c_B8 := B8.cell; have f_B8 := B8.frozen; have l_B8 := B8.lt; have c_B9 := B9.cell; have f_B9 := B9.frozen; have l_B9 := B9.lt; have c_B10 := B10.cell; have f_B10 := B10.frozen; have l_B10 := B10.lt; have c_B11 := B11.cell; have f_B11 := B11.frozen; have l_B11 := B11.lt
  clear c_B8 f_B8 l_B8 c_B9 f_B9 l_B9 c_B10 f_B10 l_B10 c_B11 f_B11 l_B11
  clear HC7 h67 HIn0 B10 B11
  have HB8 := Lib.hid B8
  have HB9 := Lib.hid B9
  have HE := Lib.hid E
  clear B8 B9 E
  go_wp2_with fail
  go_loopw [17] (fun ni wr => ∃ k : Nat, ni = .int .i64 k ∧ k ≤ T.length ∧ Hid (Ext V8 wr)) (fun ni _ => T.length - (intOf ni).toNat)
  case atStart => exact ⟨0, rfl, by omega, Lib.hid ext_by⟩
  case round =>
    obtain ⟨k, rfl, hk, HR⟩ := hrel
    have B8 := HB8.out.ext HR.out
    have B9 := HB9.out.ext HR.out
    by_cases hlt : k < T.length
    · have hltz : (k : Int) < (T.length : Int) := by omega
      have HLT := Lib.hid hlt
      have hkb : (k : Int) < 10 := by have := HTL.out; omega
      obtain ⟨l1, l2, l3, l4⟩ := hlaw2.out k hlt
      obtain ⟨bT, oT, p, hA, HD, hpm, hp⟩ := (HTS.out wr (h68.out.trans HR.out)).one hlt
      have hpk : T[k]'hlt = p := by have := HD.out; rw [List.drop_eq_getElem_cons hlt] at this; injection this
      rw [hpk] at l1 l2
      subst hA
      obtain ⟨px, py, pu, pv⟩ := p
      have HP := Lib.hid fun W (hW : Ext wr W) => stAt.ext hW hp
      have E : Ext wr wr := Ext.refl wr
      have HU := Lib.hid fun W (hW : Ext wr W) => HUp.out Ac cc k W (h68.out.trans (HR.out.trans hW)) (HC8.out W (HR.out.trans hW))
      have HV := Lib.hid fun W (hW : Ext wr W) => HPr.out Ac cc k W (h68.out.trans (HR.out.trans hW)) (HC8.out W (HR.out.trans hW))
      clear hpk HD hpm hp
      generalize updErr s ⟨⟨ll, lh⟩, ⟨el, eh⟩, gs⟩ tk C (k : Int) L = e1 at *
      generalize updL s ⟨⟨ll, lh⟩, ⟨el, eh⟩, gs⟩ tk C (k : Int) L = U1 at *
      generalize propErr s.world.bodies home ⟨⟨ll, lh⟩, ⟨el, eh⟩, gs⟩ tk C (k : Int) = e2 at *
      generalize propL s.world.bodies home ⟨⟨ll, lh⟩, ⟨el, eh⟩, gs⟩ tk C (k : Int) = U2 at *
      have c_B8 := B8.cell; have f_B8 := B8.frozen; have l_B8 := B8.lt; have c_B9 := B9.cell; have f_B9 := B9.frozen; have l_B9 := B9.lt
      go_wp2_with fail
      refine (HU.out wr (Ext.refl _)).mono ?_
      rintro e W1 ⟨v1, rfl, ho1, h1⟩
      obtain ⟨A5, c5, rfl, hs1, _⟩ := ho1.cap
      have HX1 := Lib.hid fun W (hW : Ext W1 W) => Bxs.ext hW hs1
      have e1' := Lib.hid h1
      clear c_B8 f_B8 l_B8; replace B8 := B8.ext h1; clear c_B9 f_B9 l_B9; replace B9 := B9.ext h1; replace E := Ext.trans E h1; clear h1; have c_B8 := B8.cell; have f_B8 := B8.frozen; have l_B8 := B8.lt; have c_B9 := B9.cell; have f_B9 := B9.frozen; have l_B9 := B9.lt
      clear ho1 hs1 HU
      go_wp2_with fail
      refine (HV.out W1 e1'.out).mono ?_
      rintro e W2 ⟨v2, rfl, ho2, h2⟩
      obtain ⟨A6, c6, rfl, hs2, _⟩ := ho2.cap
      have HX2 := Lib.hid fun W (hW : Ext W2 W) => HX1.out W (h2.trans hW)
      have HY2 := Lib.hid fun W (hW : Ext W2 W) => Bxs.ext hW hs2
      clear c_B8 f_B8 l_B8; replace B8 := B8.ext h2; clear c_B9 f_B9 l_B9; replace B9 := B9.ext h2; replace E := Ext.trans E h2; clear h2; have c_B8 := B8.cell; have f_B8 := B8.frozen; have l_B8 := B8.lt; have c_B9 := B9.cell; have f_B9 := B9.frozen; have l_B9 := B9.lt
      clear ho2 hs2 HV HX1 e1'
      have J1 := Lib.hid fun W (hW : Ext W2 W) => HIn.out A5 _ c5 U1 ⟨px, py, pu, pv⟩ W (HX2.out W hW)
      have J2 := Lib.hid fun W (hW : Ext W2 W) => HIn.out A6 _ c6 U2 ⟨px, py, pu, pv⟩ W (HY2.out W hW)
      dsimp only at J1 J2
      obtain ⟨p0, p1, p2, p3⟩ := HP.out W2 E
      have pl := World.block_lt_of_cell? W2 _ p0
      dsimp only at p0 p1 p2 p3
      clear HX2 HY2
      rcases l3 with rfl | rfl <;> rcases l4 with rfl | rfl
      · rw [l1 rfl] at J1
        rw [l2 rfl] at J2
        clear l1 l2
        go_wp2_with fail
        refine (J1.out W2 (Ext.refl _)).mono ?_
        rintro e W3 ⟨rfl, h3⟩
        have e3 := h3
        clear c_B8 f_B8 l_B8; replace B8 := B8.ext h3; clear c_B9 f_B9 l_B9; replace B9 := B9.ext h3; replace E := Ext.trans E h3; clear h3; have c_B8 := B8.cell; have f_B8 := B8.frozen; have l_B8 := B8.lt; have c_B9 := B9.cell; have f_B9 := B9.frozen; have l_B9 := B9.lt
        obtain ⟨q0, q1, q2, q3⟩ := HP.out W3 E
        have ql := World.block_lt_of_cell? W3 _ q0
        dsimp only at q0 q1 q2 q3
        go_wp2_with fail
        refine (J2.out W3 e3).mono ?_
        rintro e W4 ⟨rfl, h4⟩
        clear c_B8 f_B8 l_B8; replace B8 := B8.ext h4; clear c_B9 f_B9 l_B9; replace B9 := B9.ext h4; replace E := Ext.trans E h4; clear h4; have c_B8 := B8.cell; have f_B8 := B8.frozen; have l_B8 := B8.lt; have c_B9 := B9.cell; have f_B9 := B9.frozen; have l_B9 := B9.lt
        go_wp2_with fail
        go_roundw
        case rel => exact ⟨k + 1, by go_num, by have := HLT.out; omega, Lib.hid (HR.out.trans (E.trans ext_by))⟩
        case measure => have := HLT.out; simp [intOf]; omega
      · rw [l1 rfl] at J1
        clear l1 l2 J2
        go_wp2_with fail
        refine (J1.out W2 (Ext.refl _)).mono ?_
        rintro e W3 ⟨rfl, h3⟩
        have e3 := h3
        clear c_B8 f_B8 l_B8; replace B8 := B8.ext h3; clear c_B9 f_B9 l_B9; replace B9 := B9.ext h3; replace E := Ext.trans E h3; clear h3; have c_B8 := B8.cell; have f_B8 := B8.frozen; have l_B8 := B8.lt; have c_B9 := B9.cell; have f_B9 := B9.frozen; have l_B9 := B9.lt
        obtain ⟨q0, q1, q2, q3⟩ := HP.out W3 E
        have ql := World.block_lt_of_cell? W3 _ q0
        dsimp only at q0 q1 q2 q3
        go_wp2_with fail
        go_roundw
        case rel => exact ⟨k + 1, by go_num, by have := HLT.out; omega, Lib.hid (HR.out.trans (E.trans ext_by))⟩
        case measure => have := HLT.out; simp [intOf]; omega
      · rw [l2 rfl] at J2
        clear l1 l2 J1
        go_wp2_with fail
        refine (J2.out W2 (Ext.refl _)).mono ?_
        rintro e W3 ⟨rfl, h3⟩
        clear c_B8 f_B8 l_B8; replace B8 := B8.ext h3; clear c_B9 f_B9 l_B9; replace B9 := B9.ext h3; replace E := Ext.trans E h3; clear h3; have c_B8 := B8.cell; have f_B8 := B8.frozen; have l_B8 := B8.lt; have c_B9 := B9.cell; have f_B9 := B9.frozen; have l_B9 := B9.lt
        go_wp2_with fail
        go_roundw
        case rel => exact ⟨k + 1, by go_num, by have := HLT.out; omega, Lib.hid (HR.out.trans (E.trans ext_by))⟩
        case measure => have := HLT.out; simp [intOf]; omega
      · clear l1 l2 J1 J2
        go_wp2_with fail
        go_roundw
        case rel => exact ⟨k + 1, by go_num, by have := HLT.out; omega, Lib.hid (HR.out.trans (E.trans ext_by))⟩
        case measure => have := HLT.out; simp [intOf]; omega
    · have hkm : k = T.length := by omega
      have hltz : ¬ ((k : Int) < (T.length : Int)) := by omega
      clear hlaw2 HUp HPr HIn HTS HC8
      go_wp2_with fail
      refine (HA.out _).mono ?_
      rintro e w1 ⟨rfl, h1⟩
      obtain ⟨hc_w1, hf_w1, hz_w1⟩ := bcell h1; (try simp only [szA] at hz_w1); (try have := wz0 w w1); (try have := wz1 w w1); (try have := wz2 w w1); (try have := wz3 w w1); (try have := wz4 w w1)
      go_wp2_with fail
      go_ret
      exact ⟨rfl, (HE.out.trans HR.out).trans ext_by⟩
end Go.Proofs.YtfniicgoeljmdaaGreat

namespace Go.Proofs.YtfniicgoeljmdaaGreat
open Go.RowKit Go.ChangeShapes Go.WideShapes Go.ChangeAt

set_option maxRecDepth 100000 in
set_option maxHeartbeats 1000000 in
theorem otruth_lifted (os : Os) (started : os.Started) (H : Type) (enc : TypeId × Value → H) :
    ReturnsInHanded {} Tryz.checked os 14 .any (Rows.orbitTruthSpec.pre6 enc Tryz.prog Tryz.f14 Rows.orbitTruthRow.domain false) (Rows.orbitTruthSpec.post enc Tryz.prog Tryz.f14 false true false false) := by
  refine returnsInHanded_of_change (C := Tryz.checked) own started (by kernel_rfl) Tryz.func14
    (ChangeSpec.witness6 (enc := enc) (C := Tryz.checked) false ⟨#[], #[.slice none 0 0, .int .i64 0, .int .i64 0], []⟩ 8 (by kernel_rfl) (by kernel_rfl) (by kernel_rfl) (by kernel_rfl)) ?_
  intro W base args ds gs before hval0 hW _ _
  have hval : ∀ (j : Nat) t v, Tryz.f14.params[j]? = some t → args[j]? = some v → Value.okWide Tryz.prog W .any base t v := hval0
  have hW' := hW
  obtain ⟨p, q, hA0, hV, rfl, hfz, hnd⟩ := hW
  have hA : DataW.TrodAll enc Tryz.prog W 0 (fun _ => true) true Tryz.f14.params.toList args.toList ds p := hA0
  rw [Tryz.params14] at hA hval
  obtain ⟨v0, vs0, d0, ds0, p0, q0, hargs, rfl, rfl, h0, r0⟩ := trodAll_cons hA
  obtain ⟨v1, vs1, d1, ds1, p1, q1, rfl, rfl, rfl, h1, r1⟩ := trodAll_cons r0
  obtain ⟨v2, vs2, d2, ds2, p2, q2, rfl, rfl, rfl, h2, r2⟩ := trodAll_cons r1
  obtain ⟨rfl, rfl, rfl⟩ := trodAll_nil r2
  obtain ⟨rfl, rfl⟩ := trodVars_none hV
  obtain rfl : args = #[v0, v1, v2] := by cases args; simp_all
  obtain ⟨A0, len0, cap0, rfl⟩ := okWide_slice Tryz.underlying48 (hval 0 _ v0 rfl rfl)
  obtain ⟨fuel0, h0⟩ := h0
  obtain ⟨A_0, n_0, c_0, l_0, e0, hl0⟩ := open_ints h0
  injection e0 with e0 _; injection e0 with e0a e0b e0c; subst e0a e0b e0c
  obtain ⟨m1, rfl⟩ := okWide_int Tryz.underlying3 (hval 1 _ v1 rfl rfl)
  obtain ⟨m2, rfl⟩ := okWide_int Tryz.underlying3 (hval 2 _ v2 rfl rfl)
  refine (OrbitTruth_c A0 len0 cap0 l_0 _ _ W hl0  ).mono fun e W' ⟨he, hb⟩ => ?_
  subst he
  exact ⟨_, rfl, law_post (by kernel_rfl) rfl rfl hW' rfl hb⟩

end Go.Proofs.YtfniicgoeljmdaaGreat
