/- Sets that are filtered and refined, or which error: the program. No condition. Sets that are filtered, split and refined, or which error: the reference. No condition. -/
import Derived.Test.YtfniicgoeljmdaaGreatRefFilter
import Derived.Test.YtfniicgoeljmdaaGreatRefSplitAll
namespace Go.Proofs.YtfniicgoeljmdaaGreat
open Go.RowKit

set_option maxRecDepth 4000 in
set_option maxHeartbeats 1000000 in
theorem oFilter_c (A1 : Option Addr) (n1 c1 : Nat) (home : Int) (A2 : Option Addr) (n2 c2 : Nat) (A3 : Option Addr) (n3 c3 : Nat) (s : Sky) (tick : Int) (A : Option Addr) (n c : Nat) (l : List Bx) (B : Option Addr) (m d : Nat) (r : List Sight) (w : World) (hs : IsSky w A1 n1 home A2 n2 A3 n3 s) (hl : Bxs w A n l) (hr : Sights w B m r) :
    Calls Tryz.prog 49 #[.agg #[.slice A1 n1 c1, .int .i64 home, .slice A2 n2 c2, .slice A3 n3 c3], .int .i64 tick, .slice A n c, .slice B m d] w fun e w' => ∃ v, e = .returned (.tuple #[v, .int .i64 (askErr s tick l r)]) ∧ OwnBxs w.heap.size w' v (if askErr s tick l r = 0 then filtL s tick r l else []) ∧ Ext w w' := by
  have HC := Lib.hid fun W (hW : Ext w W) => Check_c A1 n1 c1 home A2 n2 c2 A3 n3 c3 s W (hs.ext hW)
  have HW := Lib.hid fun W => oWithin_c tick 0 1073741824 W
  have HS := Lib.hid fun W (hW : Ext w W) => oCheckSet_c A n c l W (Bxs.ext hW hl)
  have HG := Lib.hid fun W (hW : Ext w W) => oCheckSights_c A1 n1 c1 home A2 n2 c2 A3 n3 c3 s B m d r W (hs.ext hW) (Sights.ext hW hr)
  have HF : Hid (setErr l = 0 → ∀ W, Ext w W → Calls Tryz.prog 105 #[.agg #[.slice A1 n1 c1, .int .i64 home, .slice A2 n2 c2, .slice A3 n3 c3], .int .i64 tick, .slice A n c, .slice B m d] W fun e w' => ∃ v, e = .returned v ∧ OwnBxs W.heap.size w' v (filtL s tick r l) ∧ Ext W w') := by
    refine Lib.hid fun h W hW => oFilterL_c A1 n1 c1 home A2 n2 c2 A3 n3 c3 s tick A n c l B m d r W (hs.ext hW) (Bxs.ext hW hl) (Sights.ext hW hr) ?_
    have h1 := hl.len
    unfold setErr at h
    split at h
    · cases h
    · omega
  unfold askErr
  generalize filtL s tick r l = R at *
  generalize skyErr s = e1 at *
  generalize setErr l = e3 at *
  generalize sgsErr s r = e4 at *
  generalize hwt : within tick 0 1073741824 = e2 at *
  clear hs hl hr hwt
  by_cases h1 : e1 = 0
  · subst h1
    cases e2
    · rw [if_neg (by simp), if_pos rfl, if_neg (by decide)]
      go_enter Tryz.func49, Tryz.ntmps49
      go_wp2_with fail
      refine (HC.out _ (by (repeat' (first | exact Ext.refl _ | assumption | apply Ext.alloc | apply Ext.drew | refine Ext.set ?_ (by dsimp only; omega) _ | refine Ext.trans ?_ (by assumption))))).mono ?_
      rintro e w1 ⟨rfl, h1⟩
      obtain ⟨hc_w1, hf_w1, hz_w1⟩ := bcell h1; (repeat (first | rw [World.size_alloc] at hz_w1 | rw [World.size_drew] at hz_w1 | rw [World.size_setCell] at hz_w1)); (try (have : w.heap.size < w1.heap.size := (by omega))); (try (have : w.heap.size + 1 < w1.heap.size := (by omega))); (try (have : w.heap.size + 1 + 1 < w1.heap.size := (by omega))); (try (have : w.heap.size + 1 + 1 + 1 < w1.heap.size := (by omega))); (try (have : w.heap.size + 1 + 1 + 1 + 1 < w1.heap.size := (by omega)))
      go_wp2_with fail
      refine (HW.out _).mono ?_
      rintro e w2 ⟨rfl, h2⟩
      obtain ⟨hc_w2, hf_w2, hz_w2⟩ := bcell h2; (repeat (first | rw [World.size_alloc] at hz_w2 | rw [World.size_drew] at hz_w2 | rw [World.size_setCell] at hz_w2)); (try (have : w.heap.size < w2.heap.size := (by omega))); (try (have : w.heap.size + 1 < w2.heap.size := (by omega))); (try (have : w.heap.size + 1 + 1 < w2.heap.size := (by omega))); (try (have : w.heap.size + 1 + 1 + 1 < w2.heap.size := (by omega))); (try (have : w.heap.size + 1 + 1 + 1 + 1 < w2.heap.size := (by omega)))
      go_wp2_with fail
      (try simp only [Exit.inBlock, Exit.then]); apply bodyPost_ret; (focus (simp only [results, Tryz.results49]; go_simp; try rfl)); rfl
      exact ⟨_, rfl, OwnBxs.nil _ _, by (repeat' (first | exact Ext.refl _ | assumption | apply Ext.alloc | apply Ext.drew | refine Ext.set ?_ (by dsimp only; omega) _ | refine Ext.trans ?_ (by assumption)))⟩
    · rw [if_neg (by simp), if_neg (by simp)]
      by_cases h3 : e3 = 0
      · subst h3
        rw [if_neg (by simp)]
        have HF2 : Hid (∀ W, Ext w W → Calls Tryz.prog 105 #[.agg #[.slice A1 n1 c1, .int .i64 home, .slice A2 n2 c2, .slice A3 n3 c3], .int .i64 tick, .slice A n c, .slice B m d] W fun e w' => ∃ v, e = .returned v ∧ OwnBxs W.heap.size w' v R ∧ Ext W w') := Lib.hid (HF.out rfl)
        clear HF
        by_cases h4 : e4 = 0
        · subst h4
          rw [if_pos rfl]
          go_enter Tryz.func49, Tryz.ntmps49
          go_wp2_with fail
          refine (HC.out _ (by (repeat' (first | exact Ext.refl _ | assumption | apply Ext.alloc | apply Ext.drew | refine Ext.set ?_ (by dsimp only; omega) _ | refine Ext.trans ?_ (by assumption))))).mono ?_
          rintro e w1 ⟨rfl, h1⟩
          obtain ⟨hc_w1, hf_w1, hz_w1⟩ := bcell h1; (repeat (first | rw [World.size_alloc] at hz_w1 | rw [World.size_drew] at hz_w1 | rw [World.size_setCell] at hz_w1)); (try (have : w.heap.size < w1.heap.size := (by omega))); (try (have : w.heap.size + 1 < w1.heap.size := (by omega))); (try (have : w.heap.size + 1 + 1 < w1.heap.size := (by omega))); (try (have : w.heap.size + 1 + 1 + 1 < w1.heap.size := (by omega))); (try (have : w.heap.size + 1 + 1 + 1 + 1 < w1.heap.size := (by omega)))
          go_wp2_with fail
          refine (HW.out _).mono ?_
          rintro e w2 ⟨rfl, h2⟩
          obtain ⟨hc_w2, hf_w2, hz_w2⟩ := bcell h2; (repeat (first | rw [World.size_alloc] at hz_w2 | rw [World.size_drew] at hz_w2 | rw [World.size_setCell] at hz_w2)); (try (have : w.heap.size < w2.heap.size := (by omega))); (try (have : w.heap.size + 1 < w2.heap.size := (by omega))); (try (have : w.heap.size + 1 + 1 < w2.heap.size := (by omega))); (try (have : w.heap.size + 1 + 1 + 1 < w2.heap.size := (by omega))); (try (have : w.heap.size + 1 + 1 + 1 + 1 < w2.heap.size := (by omega)))
          go_wp2_with fail
          refine (HS.out _ (by (repeat' (first | exact Ext.refl _ | assumption | apply Ext.alloc | apply Ext.drew | refine Ext.set ?_ (by dsimp only; omega) _ | refine Ext.trans ?_ (by assumption))))).mono ?_
          rintro e w3 ⟨rfl, h3⟩
          obtain ⟨hc_w3, hf_w3, hz_w3⟩ := bcell h3; (repeat (first | rw [World.size_alloc] at hz_w3 | rw [World.size_drew] at hz_w3 | rw [World.size_setCell] at hz_w3)); (try (have : w.heap.size < w3.heap.size := (by omega))); (try (have : w.heap.size + 1 < w3.heap.size := (by omega))); (try (have : w.heap.size + 1 + 1 < w3.heap.size := (by omega))); (try (have : w.heap.size + 1 + 1 + 1 < w3.heap.size := (by omega))); (try (have : w.heap.size + 1 + 1 + 1 + 1 < w3.heap.size := (by omega)))
          go_wp2_with fail
          refine (HG.out _ (by (repeat' (first | exact Ext.refl _ | assumption | apply Ext.alloc | apply Ext.drew | refine Ext.set ?_ (by dsimp only; omega) _ | refine Ext.trans ?_ (by assumption))))).mono ?_
          rintro e w4 ⟨rfl, h4⟩
          obtain ⟨hc_w4, hf_w4, hz_w4⟩ := bcell h4; (repeat (first | rw [World.size_alloc] at hz_w4 | rw [World.size_drew] at hz_w4 | rw [World.size_setCell] at hz_w4)); (try (have : w.heap.size < w4.heap.size := (by omega))); (try (have : w.heap.size + 1 < w4.heap.size := (by omega))); (try (have : w.heap.size + 1 + 1 < w4.heap.size := (by omega))); (try (have : w.heap.size + 1 + 1 + 1 < w4.heap.size := (by omega))); (try (have : w.heap.size + 1 + 1 + 1 + 1 < w4.heap.size := (by omega)))
          go_wp2_with fail
          refine (HF2.out _ (by (repeat' (first | exact Ext.refl _ | assumption | apply Ext.alloc | apply Ext.drew | refine Ext.set ?_ (by dsimp only; omega) _ | refine Ext.trans ?_ (by assumption))))).mono ?_
          rintro e w5 ⟨v, rfl, ho, h5⟩
          have HO := Lib.hid (ho.mono (base' := w.heap.size) (by omega))
          have E5 : Ext w w5 := Ext.trans (by (repeat' (first | exact Ext.refl _ | assumption | apply Ext.alloc | apply Ext.drew | refine Ext.set ?_ (by dsimp only; omega) _ | refine Ext.trans ?_ (by assumption)))) h5
          clear ho h5
          go_wp2_with fail
          (try simp only [Exit.inBlock, Exit.then]); apply bodyPost_ret; (focus (simp only [results, Tryz.results49]; go_simp; try rfl)); rfl
          exact ⟨_, rfl, HO.out, E5⟩
        · rw [if_neg h4]
          go_enter Tryz.func49, Tryz.ntmps49
          go_wp2_with fail
          refine (HC.out _ (by (repeat' (first | exact Ext.refl _ | assumption | apply Ext.alloc | apply Ext.drew | refine Ext.set ?_ (by dsimp only; omega) _ | refine Ext.trans ?_ (by assumption))))).mono ?_
          rintro e w1 ⟨rfl, h1⟩
          obtain ⟨hc_w1, hf_w1, hz_w1⟩ := bcell h1; (repeat (first | rw [World.size_alloc] at hz_w1 | rw [World.size_drew] at hz_w1 | rw [World.size_setCell] at hz_w1)); (try (have : w.heap.size < w1.heap.size := (by omega))); (try (have : w.heap.size + 1 < w1.heap.size := (by omega))); (try (have : w.heap.size + 1 + 1 < w1.heap.size := (by omega))); (try (have : w.heap.size + 1 + 1 + 1 < w1.heap.size := (by omega))); (try (have : w.heap.size + 1 + 1 + 1 + 1 < w1.heap.size := (by omega)))
          go_wp2_with fail
          refine (HW.out _).mono ?_
          rintro e w2 ⟨rfl, h2⟩
          obtain ⟨hc_w2, hf_w2, hz_w2⟩ := bcell h2; (repeat (first | rw [World.size_alloc] at hz_w2 | rw [World.size_drew] at hz_w2 | rw [World.size_setCell] at hz_w2)); (try (have : w.heap.size < w2.heap.size := (by omega))); (try (have : w.heap.size + 1 < w2.heap.size := (by omega))); (try (have : w.heap.size + 1 + 1 < w2.heap.size := (by omega))); (try (have : w.heap.size + 1 + 1 + 1 < w2.heap.size := (by omega))); (try (have : w.heap.size + 1 + 1 + 1 + 1 < w2.heap.size := (by omega)))
          go_wp2_with fail
          refine (HS.out _ (by (repeat' (first | exact Ext.refl _ | assumption | apply Ext.alloc | apply Ext.drew | refine Ext.set ?_ (by dsimp only; omega) _ | refine Ext.trans ?_ (by assumption))))).mono ?_
          rintro e w3 ⟨rfl, h3⟩
          obtain ⟨hc_w3, hf_w3, hz_w3⟩ := bcell h3; (repeat (first | rw [World.size_alloc] at hz_w3 | rw [World.size_drew] at hz_w3 | rw [World.size_setCell] at hz_w3)); (try (have : w.heap.size < w3.heap.size := (by omega))); (try (have : w.heap.size + 1 < w3.heap.size := (by omega))); (try (have : w.heap.size + 1 + 1 < w3.heap.size := (by omega))); (try (have : w.heap.size + 1 + 1 + 1 < w3.heap.size := (by omega))); (try (have : w.heap.size + 1 + 1 + 1 + 1 < w3.heap.size := (by omega)))
          go_wp2_with fail
          refine (HG.out _ (by (repeat' (first | exact Ext.refl _ | assumption | apply Ext.alloc | apply Ext.drew | refine Ext.set ?_ (by dsimp only; omega) _ | refine Ext.trans ?_ (by assumption))))).mono ?_
          rintro e w4 ⟨rfl, h4⟩
          obtain ⟨hc_w4, hf_w4, hz_w4⟩ := bcell h4; (repeat (first | rw [World.size_alloc] at hz_w4 | rw [World.size_drew] at hz_w4 | rw [World.size_setCell] at hz_w4)); (try (have : w.heap.size < w4.heap.size := (by omega))); (try (have : w.heap.size + 1 < w4.heap.size := (by omega))); (try (have : w.heap.size + 1 + 1 < w4.heap.size := (by omega))); (try (have : w.heap.size + 1 + 1 + 1 < w4.heap.size := (by omega))); (try (have : w.heap.size + 1 + 1 + 1 + 1 < w4.heap.size := (by omega)))
          go_wp2_with fail
          (try simp only [Exit.inBlock, Exit.then]); apply bodyPost_ret; (focus (simp only [results, Tryz.results49]; go_simp; try rfl)); rfl
          exact ⟨_, rfl, OwnBxs.nil _ _, by (repeat' (first | exact Ext.refl _ | assumption | apply Ext.alloc | apply Ext.drew | refine Ext.set ?_ (by dsimp only; omega) _ | refine Ext.trans ?_ (by assumption)))⟩
      · rw [if_pos h3, if_neg h3]
        go_enter Tryz.func49, Tryz.ntmps49
        go_wp2_with fail
        refine (HC.out _ (by (repeat' (first | exact Ext.refl _ | assumption | apply Ext.alloc | apply Ext.drew | refine Ext.set ?_ (by dsimp only; omega) _ | refine Ext.trans ?_ (by assumption))))).mono ?_
        rintro e w1 ⟨rfl, h1⟩
        obtain ⟨hc_w1, hf_w1, hz_w1⟩ := bcell h1; (repeat (first | rw [World.size_alloc] at hz_w1 | rw [World.size_drew] at hz_w1 | rw [World.size_setCell] at hz_w1)); (try (have : w.heap.size < w1.heap.size := (by omega))); (try (have : w.heap.size + 1 < w1.heap.size := (by omega))); (try (have : w.heap.size + 1 + 1 < w1.heap.size := (by omega))); (try (have : w.heap.size + 1 + 1 + 1 < w1.heap.size := (by omega))); (try (have : w.heap.size + 1 + 1 + 1 + 1 < w1.heap.size := (by omega)))
        go_wp2_with fail
        refine (HW.out _).mono ?_
        rintro e w2 ⟨rfl, h2⟩
        obtain ⟨hc_w2, hf_w2, hz_w2⟩ := bcell h2; (repeat (first | rw [World.size_alloc] at hz_w2 | rw [World.size_drew] at hz_w2 | rw [World.size_setCell] at hz_w2)); (try (have : w.heap.size < w2.heap.size := (by omega))); (try (have : w.heap.size + 1 < w2.heap.size := (by omega))); (try (have : w.heap.size + 1 + 1 < w2.heap.size := (by omega))); (try (have : w.heap.size + 1 + 1 + 1 < w2.heap.size := (by omega))); (try (have : w.heap.size + 1 + 1 + 1 + 1 < w2.heap.size := (by omega)))
        go_wp2_with fail
        refine (HS.out _ (by (repeat' (first | exact Ext.refl _ | assumption | apply Ext.alloc | apply Ext.drew | refine Ext.set ?_ (by dsimp only; omega) _ | refine Ext.trans ?_ (by assumption))))).mono ?_
        rintro e w3 ⟨rfl, h3⟩
        obtain ⟨hc_w3, hf_w3, hz_w3⟩ := bcell h3; (repeat (first | rw [World.size_alloc] at hz_w3 | rw [World.size_drew] at hz_w3 | rw [World.size_setCell] at hz_w3)); (try (have : w.heap.size < w3.heap.size := (by omega))); (try (have : w.heap.size + 1 < w3.heap.size := (by omega))); (try (have : w.heap.size + 1 + 1 < w3.heap.size := (by omega))); (try (have : w.heap.size + 1 + 1 + 1 < w3.heap.size := (by omega))); (try (have : w.heap.size + 1 + 1 + 1 + 1 < w3.heap.size := (by omega)))
        go_wp2_with fail
        (try simp only [Exit.inBlock, Exit.then]); apply bodyPost_ret; (focus (simp only [results, Tryz.results49]; go_simp; try rfl)); rfl
        exact ⟨_, rfl, OwnBxs.nil _ _, by (repeat' (first | exact Ext.refl _ | assumption | apply Ext.alloc | apply Ext.drew | refine Ext.set ?_ (by dsimp only; omega) _ | refine Ext.trans ?_ (by assumption)))⟩
  · rw [if_pos h1, if_neg h1]
    go_enter Tryz.func49, Tryz.ntmps49
    go_wp2_with fail
    refine (HC.out _ (by (repeat' (first | exact Ext.refl _ | assumption | apply Ext.alloc | apply Ext.drew | refine Ext.set ?_ (by dsimp only; omega) _ | refine Ext.trans ?_ (by assumption))))).mono ?_
    rintro e w1 ⟨rfl, h1⟩
    obtain ⟨hc_w1, hf_w1, hz_w1⟩ := bcell h1; (repeat (first | rw [World.size_alloc] at hz_w1 | rw [World.size_drew] at hz_w1 | rw [World.size_setCell] at hz_w1)); (try (have : w.heap.size < w1.heap.size := (by omega))); (try (have : w.heap.size + 1 < w1.heap.size := (by omega))); (try (have : w.heap.size + 1 + 1 < w1.heap.size := (by omega))); (try (have : w.heap.size + 1 + 1 + 1 < w1.heap.size := (by omega))); (try (have : w.heap.size + 1 + 1 + 1 + 1 < w1.heap.size := (by omega)))
    go_wp2_with fail
    (try simp only [Exit.inBlock, Exit.then]); apply bodyPost_ret; (focus (simp only [results, Tryz.results49]; go_simp; try rfl)); rfl
    exact ⟨_, rfl, OwnBxs.nil _ _, by (repeat' (first | exact Ext.refl _ | assumption | apply Ext.alloc | apply Ext.drew | refine Ext.set ?_ (by dsimp only; omega) _ | refine Ext.trans ?_ (by assumption)))⟩
/-- A set after some rounds. -/
def refM (s : Sky) (tick : Int) (sg : List Sight) : Nat → List Bx → List Bx
  | 0, l => l
  | k + 1, l => if 512 < (halfL l).length then l else refM s tick sg k (filtL s tick sg (halfL l))
def refErr (s : Sky) (tick : Int) (l : List Bx) (sg : List Sight) (n : Int) : Int := if askErr s tick l sg ≠ 0 then askErr s tick l sg else if n < 0 ∨ 20 < n then 2 else 0
set_option maxRecDepth 4000 in
set_option maxHeartbeats 1000000 in
theorem oRefine_yes (A1 : Option Addr) (n1 c1 : Nat) (home : Int) (A2 : Option Addr) (n2 c2 : Nat) (A3 : Option Addr) (n3 c3 : Nat) (s : Sky) (tick : Int) (A : Option Addr) (n c : Nat) (l : List Bx) (B : Option Addr) (m d : Nat) (r : List Sight) (N : Nat) (w : World) (hs : IsSky w A1 n1 home A2 n2 A3 n3 s) (hl : Bxs w A n l) (hr : Sights w B m r) (h0 : askErr s tick l r = 0) (hN : N ≤ 20) :
    Calls Tryz.prog 51 #[.agg #[.slice A1 n1 c1, .int .i64 home, .slice A2 n2 c2, .slice A3 n3 c3], .int .i64 tick, .slice A n c, .slice B m d, .int .i64 (N : Int)] w fun e w' => ∃ v, e = .returned (.tuple #[v, .int .i64 0]) ∧ OwnBxs w.heap.size w' v (refM s tick r N l) ∧ Ext w w' := by
  have h512 : l.length ≤ 512 := by
    unfold askErr at h0
    split at h0
    · contradiction
    · split at h0
      · cases h0
      · split at h0
        · contradiction
        · next h => 
          unfold setErr at h
          split at h
          · exact absurd (by decide) h
          · omega
  have hln := hl.len
  have HQ := Lib.hid fun W (hW : Ext w W) => oFilter_c A1 n1 c1 home A2 n2 c2 A3 n3 c3 s tick A n c l B m d r W (hs.ext hW) (Bxs.ext hW hl) (Sights.ext hW hr)
  rw [h0] at HQ
  have HC := Lib.hid fun W (hW : Ext w W) => CloneBox_c A n c l W (Bxs.ext hW hl) (by omega)
  have HH := Lib.hid fun A' (k c' : Nat) l' W (h : Bxs W A' k l') (hk : k ≤ 2000) => oHalves_c A' k c' l' W h hk
  have HF := Lib.hid fun A' (k c' : Nat) l' W (hW : Ext w W) (h : Bxs W A' k l') (hk : k ≤ 2000) => oFilterL_c A1 n1 c1 home A2 n2 c2 A3 n3 c3 s tick A' k c' l' B m d r W (hs.ext hW) h (Sights.ext hW hr) hk
  obtain ⟨T, hT⟩ : ∃ T, refM s tick r N l = T := ⟨_, rfl⟩
  rw [hT]
  have HT := Lib.hid hT
  clear hT h0 hs hl hr hln
  go_enter Tryz.func51, Tryz.ntmps51
  go_wp2_with fail
  refine (HQ.out _ (by (repeat' (first | exact Ext.refl _ | assumption | apply Ext.alloc | apply Ext.drew | refine Ext.set ?_ (by dsimp only; omega) _ | refine Ext.trans ?_ (by assumption))))).mono ?_
  rintro e w1 ⟨v1, rfl, _, h1⟩
  have B5 : Blk w1 w.heap.size 53 #[.slice A1 n1 c1, .int .i64 home, .slice A2 n2 c2, .slice A3 n3 c3] := (Blk.new w _ _).ext h1
  have E1 : Ext w w1 := (Ext.alloc0 _ _).trans h1
  clear h1 HQ
  go_wp2_with fail
  refine (HC.out _ E1).mono ?_
  rintro e w2 ⟨v2, rfl, ho2, h2⟩
  replace B5 := B5.ext h2
  have hz1 := E1.size
  have HO2 := Lib.hid (ho2.mono (base' := w.heap.size) (by omega))
  have E2 := E1.trans h2
  clear h2 ho2 HC E1 hz1
  go_wp2_with fail
  go_loopw [14, 36] (fun o i wr => ∃ (k : Nat) (l' : List Bx), k ≤ N ∧ i = .int .i64 k ∧ Hid (OwnBxs w.heap.size wr o l') ∧ l'.length ≤ 512 ∧ Hid (refM s tick r (N - k) l' = T) ∧ Hid (Blk wr w.heap.size 53 #[.slice A1 n1 c1, .int .i64 home, .slice A2 n2 c2, .slice A3 n3 c3]) ∧ Ext w wr) (fun _ i _ => N - (intOf i).toNat)
  case atStart => exact ⟨0, l, Nat.zero_le _, rfl, HO2, h512, HT, B5, E2⟩
  case round =>
    clear HO2 B5 E2 HT
    obtain ⟨k, l', hk, rfl, HO, hl', HI, B5, E⟩ := hrel
    by_cases hlt : k < N
    · obtain ⟨A', c', rfl, hs', _⟩ := HO.out.cap
      have HS' := Lib.hid hs'
      clear hs'
      have hi := HI.out
      rw [show N - k = N - (k + 1) + 1 by omega, refM] at hi
      have hll := half_len l'
      go_wp2_with fail
      refine (HH.out A' l'.length c' l' _ HS'.out (by omega)).mono ?_
      rintro e w3 ⟨v3, rfl, ho3, h3⟩
      have hz := E.size
      obtain ⟨A3', c3', rfl, hs3, _⟩ := ho3.cap
      have HS3 := Lib.hid hs3
      have HO3 := Lib.hid (OwnBxs.ext HO.out h3)
      have B3 := B5.out.ext h3
      have E3 := E.trans h3
      clear hs3 ho3 h3 HO
      generalize halfL l' = L at *
      obtain ⟨q, hq⟩ : ∃ q, q = L.length := ⟨_, rfl⟩
      rw [← hq] at HS3 hll hi ⊢
      have c_B3 := B3.cell; have f_B3 := B3.frozen; have l_B3 := B3.lt
      by_cases h5 : 512 < q
      · rw [if_pos h5] at hi
        have Hi := Lib.hid hi
        clear hi HI hq
        go_wp2_with fail
        (try simp only [Exit.inBlock, Exit.then]); apply bodyPost_ret; (focus (simp only [results, Tryz.results51]; go_simp; try rfl)); rfl
        exact ⟨_, rfl, by rw [← Hi.out]; exact HO3.out, E3⟩
      · rw [if_neg h5] at hi
        have Hi := Lib.hid hi
        have hfl : (filtL s tick r L).length ≤ q := by rw [hq]; exact List.length_filter_le _ _
        clear hi HI hq
        go_wp2_with fail
        refine (HF.out A3' q c3' L _ E3 HS3.out (by omega)).mono ?_
        rintro e w4 ⟨v4, rfl, ho4, h4⟩
        have hz3 := E3.size
        have HO4 := Lib.hid (ho4.mono (base' := w.heap.size) (by omega))
        have B4 := Lib.hid (B3.ext h4)
        have E4 := E3.trans h4
        clear c_B3 f_B3 l_B3
        clear ho4 h4 B3
        go_wp2_with fail
        go_roundw
        case rel => exact ⟨k + 1, _, by omega, by go_num, HO4, by omega, Hi, B4, E4⟩
        case measure => simp [intOf]; omega
    · have hkn : k = N := by omega
      have hi := HI.out
      rw [hkn, Nat.sub_self, refM] at hi
      have Hi := Lib.hid hi
      clear hi HI
      go_wp2_with fail
      (try simp only [Exit.inBlock, Exit.then]); apply bodyPost_ret; (focus (simp only [results, Tryz.results51]; go_simp; try rfl)); rfl
      exact ⟨_, rfl, by rw [← Hi.out]; exact HO.out, E⟩
set_option maxRecDepth 4000 in
set_option maxHeartbeats 1000000 in
theorem oRefine_no (A1 : Option Addr) (n1 c1 : Nat) (home : Int) (A2 : Option Addr) (n2 c2 : Nat) (A3 : Option Addr) (n3 c3 : Nat) (s : Sky) (tick : Int) (A : Option Addr) (n c : Nat) (l : List Bx) (B : Option Addr) (m d : Nat) (r : List Sight) (N : Int) (w : World) (hs : IsSky w A1 n1 home A2 n2 A3 n3 s) (hl : Bxs w A n l) (hr : Sights w B m r) (h0 : refErr s tick l r N ≠ 0) :
    Calls Tryz.prog 51 #[.agg #[.slice A1 n1 c1, .int .i64 home, .slice A2 n2 c2, .slice A3 n3 c3], .int .i64 tick, .slice A n c, .slice B m d, .int .i64 N] w fun e w' => e = .returned (.tuple #[.slice none 0 0, .int .i64 (refErr s tick l r N)]) ∧ Ext w w' := by
  have HQ := Lib.hid fun W (hW : Ext w W) => oFilter_c A1 n1 c1 home A2 n2 c2 A3 n3 c3 s tick A n c l B m d r W (hs.ext hW) (Bxs.ext hW hl) (Sights.ext hW hr)
  unfold refErr at h0 ⊢
  generalize askErr s tick l r = E at *
  clear hs hl hr
  by_cases h1 : E = 0
  · subst h1
    rw [if_neg (by simp)] at h0 ⊢
    have h2 : N < 0 ∨ 20 < N := by
      refine Classical.byContradiction fun h => h0 ?_
      rw [if_neg h]
    rw [if_pos h2]
    clear h0
    rcases h2 with h2 | h2
    · go_enter Tryz.func51, Tryz.ntmps51
      go_wp2_with fail
      refine (HQ.out _ (by (repeat' (first | exact Ext.refl _ | assumption | apply Ext.alloc | apply Ext.drew | refine Ext.set ?_ (by dsimp only; omega) _ | refine Ext.trans ?_ (by assumption))))).mono ?_
      rintro e w1 ⟨v1, rfl, _, h1⟩
      obtain ⟨hc_w1, hf_w1, hz_w1⟩ := bcell h1; (repeat (first | rw [World.size_alloc] at hz_w1 | rw [World.size_drew] at hz_w1 | rw [World.size_setCell] at hz_w1)); (try (have : w.heap.size < w1.heap.size := (by omega))); (try (have : w.heap.size + 1 < w1.heap.size := (by omega))); (try (have : w.heap.size + 1 + 1 < w1.heap.size := (by omega))); (try (have : w.heap.size + 1 + 1 + 1 < w1.heap.size := (by omega))); (try (have : w.heap.size + 1 + 1 + 1 + 1 < w1.heap.size := (by omega)))
      go_wp2_with fail
      (try simp only [Exit.inBlock, Exit.then]); apply bodyPost_ret; (focus (simp only [results, Tryz.results51]; go_simp; try rfl)); rfl
      exact ⟨rfl, by (repeat' (first | exact Ext.refl _ | assumption | apply Ext.alloc | apply Ext.drew | refine Ext.set ?_ (by dsimp only; omega) _ | refine Ext.trans ?_ (by assumption)))⟩
    · have h3 : ¬ N < 0 := by omega
      go_enter Tryz.func51, Tryz.ntmps51
      go_wp2_with fail
      refine (HQ.out _ (by (repeat' (first | exact Ext.refl _ | assumption | apply Ext.alloc | apply Ext.drew | refine Ext.set ?_ (by dsimp only; omega) _ | refine Ext.trans ?_ (by assumption))))).mono ?_
      rintro e w1 ⟨v1, rfl, _, h1⟩
      obtain ⟨hc_w1, hf_w1, hz_w1⟩ := bcell h1; (repeat (first | rw [World.size_alloc] at hz_w1 | rw [World.size_drew] at hz_w1 | rw [World.size_setCell] at hz_w1)); (try (have : w.heap.size < w1.heap.size := (by omega))); (try (have : w.heap.size + 1 < w1.heap.size := (by omega))); (try (have : w.heap.size + 1 + 1 < w1.heap.size := (by omega))); (try (have : w.heap.size + 1 + 1 + 1 < w1.heap.size := (by omega))); (try (have : w.heap.size + 1 + 1 + 1 + 1 < w1.heap.size := (by omega)))
      go_wp2_with fail
      (try simp only [Exit.inBlock, Exit.then]); apply bodyPost_ret; (focus (simp only [results, Tryz.results51]; go_simp; try rfl)); rfl
      exact ⟨rfl, by (repeat' (first | exact Ext.refl _ | assumption | apply Ext.alloc | apply Ext.drew | refine Ext.set ?_ (by dsimp only; omega) _ | refine Ext.trans ?_ (by assumption)))⟩
  · rw [if_pos h1]
    clear h0
    go_enter Tryz.func51, Tryz.ntmps51
    go_wp2_with fail
    refine (HQ.out _ (by (repeat' (first | exact Ext.refl _ | assumption | apply Ext.alloc | apply Ext.drew | refine Ext.set ?_ (by dsimp only; omega) _ | refine Ext.trans ?_ (by assumption))))).mono ?_
    rintro e w1 ⟨v1, rfl, _, h2⟩
    obtain ⟨hc_w1, hf_w1, hz_w1⟩ := bcell h2; (repeat (first | rw [World.size_alloc] at hz_w1 | rw [World.size_drew] at hz_w1 | rw [World.size_setCell] at hz_w1)); (try (have : w.heap.size < w1.heap.size := (by omega))); (try (have : w.heap.size + 1 < w1.heap.size := (by omega))); (try (have : w.heap.size + 1 + 1 < w1.heap.size := (by omega))); (try (have : w.heap.size + 1 + 1 + 1 < w1.heap.size := (by omega))); (try (have : w.heap.size + 1 + 1 + 1 + 1 < w1.heap.size := (by omega)))
    go_wp2_with fail
    (try simp only [Exit.inBlock, Exit.then]); apply bodyPost_ret; (focus (simp only [results, Tryz.results51]; go_simp; try rfl)); rfl
    exact ⟨rfl, by (repeat' (first | exact Ext.refl _ | assumption | apply Ext.alloc | apply Ext.drew | refine Ext.set ?_ (by dsimp only; omega) _ | refine Ext.trans ?_ (by assumption)))⟩
def refL (s : Sky) (tick : Int) (l : List Bx) (sg : List Sight) (n : Int) : List Bx := if refErr s tick l sg n = 0 then refM s tick sg n.toNat l else []
theorem oRefine_c (A1 : Option Addr) (n1 c1 : Nat) (home : Int) (A2 : Option Addr) (n2 c2 : Nat) (A3 : Option Addr) (n3 c3 : Nat) (s : Sky) (tick : Int) (A : Option Addr) (n c : Nat) (l : List Bx) (B : Option Addr) (m d : Nat) (r : List Sight) (N : Int) (w : World) (hs : IsSky w A1 n1 home A2 n2 A3 n3 s) (hl : Bxs w A n l) (hr : Sights w B m r) :
    Calls Tryz.prog 51 #[.agg #[.slice A1 n1 c1, .int .i64 home, .slice A2 n2 c2, .slice A3 n3 c3], .int .i64 tick, .slice A n c, .slice B m d, .int .i64 N] w fun e w' => ∃ v, e = .returned (.tuple #[v, .int .i64 (refErr s tick l r N)]) ∧ OwnBxs w.heap.size w' v (refL s tick l r N) ∧ Ext w w' := by
  unfold refL
  by_cases h : refErr s tick l r N = 0
  · rw [if_pos h, h]
    have h1 : askErr s tick l r = 0 ∧ 0 ≤ N ∧ N ≤ 20 := by
      unfold refErr at h
      by_cases h1 : askErr s tick l r = 0
      · rw [if_neg (by simp [h1])] at h
        refine ⟨h1, ?_⟩
        refine Classical.byContradiction fun h2 => ?_
        rw [if_pos (by omega)] at h
        cases h
      · rw [if_pos h1] at h
        exact absurd h h1
    have := oRefine_yes A1 n1 c1 home A2 n2 c2 A3 n3 c3 s tick A n c l B m d r N.toNat w hs hl hr h1.1 (by omega)
    rw [show ((N.toNat : Nat) : Int) = N by omega] at this
    exact this
  · rw [if_neg h]
    refine (oRefine_no A1 n1 c1 home A2 n2 c2 A3 n3 c3 s tick A n c l B m d r N w hs hl hr h).mono ?_
    rintro e w' ⟨he, h1⟩
    exact ⟨_, he, OwnBxs.nil _ _, h1⟩
end Go.Proofs.YtfniicgoeljmdaaGreat

namespace Go.Proofs.YtfniicgoeljmdaaGreat
open Go.RowKit

set_option maxRecDepth 4000 in
set_option maxHeartbeats 1000000 in
theorem rCheckSights_c (A1 : Option Addr) (n1 c1 : Nat) (home : Int) (A2 : Option Addr) (n2 c2 : Nat) (A3 : Option Addr) (n3 c3 : Nat) (s : Sky) (A : Option Addr) (n c : Nat) (l : List Sight) (w : World) (hs : IsSky w A1 n1 home A2 n2 A3 n3 s) (hl : Sights w A n l) :
    Calls Tryz.prog 114 #[.agg #[.slice A1 n1 c1, .int .i64 home, .slice A2 n2 c2, .slice A3 n3 c3], .slice A n c] w fun e w' => e = .returned (.int .i64 (sgsErr s l)) ∧ Ext w w' := by
  have hn := hl.le
  have HS := Lib.hid fun (x : Sight) W (hW : Ext w W) => refCheckSight_c A1 n1 c1 home A2 n2 c2 A3 n3 c3 s x.kind x.station x.catalog x.tick x.dx x.dy x.err x.lo x.hi W (hs.ext hW)
  have HLn := Lib.hid hl.len
  have HL := Lib.hid fun W (hW : Ext w W) => Sights.ext hW hl
  obtain ⟨T, hT⟩ : ∃ T, sgsErr s l = T := ⟨_, rfl⟩
  rw [hT]
  unfold sgsErr at hT
  have HG := Lib.hid hT
  clear hT
  clear hs hl
  by_cases h64 : 64 < n
  · have HT : Hid (T = 8) := by have := HG.out; rw [if_pos (by rw [← HLn.out]; exact h64)] at this; exact this.symm
    go_enter Tryz.func114, Tryz.ntmps114
    go_wp2_with fail
    go_ret
    exact ⟨ret_i (by rw [HT.out]), by (repeat' (first | exact Ext.refl _ | assumption | apply Ext.alloc | apply Ext.drew | refine Ext.set ?_ (by dsimp only; omega) _ | refine Ext.trans ?_ (by assumption)))⟩
  · have HT : Hid (T = sgsFrom s l) := by have := HG.out; rw [if_neg (by rw [← HLn.out]; exact h64)] at this; exact this.symm
    clear HG
    go_enter Tryz.func114, Tryz.ntmps114
    go_wp2_with fail
    go_loopw [5] (fun i wr => ∃ k : Nat, k ≤ n ∧ i = .int .i64 k ∧ Hid (sgsFrom s (l.drop k) = T) ∧ Ext (w.alloc (.cells #[.slice A1 n1 c1, .int .i64 home, .slice A2 n2 c2, .slice A3 n3 c3] 53)) wr) (fun i _ => n - (intOf i).toNat)
    case atStart => exact ⟨0, Nat.zero_le _, rfl, Lib.hid HT.out.symm, Ext.refl _⟩
    case round =>
      obtain ⟨k, hk, rfl, HI, hb⟩ := hrel
      obtain ⟨hcb, hfb, hzb⟩ := bcell hb
      simp only [World.size_alloc] at hzb
      have hz1 : w.heap.size < wr.heap.size := by omega
      have E : Ext w wr := (Ext.alloc0 _ _).trans hb
      by_cases hlt : k < n
      · obtain ⟨b, off, x, rfl, HD, hxm, hx⟩ := (HL.out wr E).one hlt
        have HX := Lib.hid fun W (hW : Ext wr W) => HS.out x W (E.trans hW)
        change Hid (∀ W, Ext wr W → Calls _ _ _ W fun e w' => e = .returned (.int .i64 (sightErr2 s x)) ∧ _) at HX
        obtain ⟨hx0, hx1, hx2, hx3, hx4, hx5, hx6, hx7, hx8⟩ := hx
        have hi := HI.out
        rw [HD.out, sgsFrom] at hi
        clear HI HD hxm
        generalize sightErr2 s x = M at *
        obtain ⟨kind, st, cat, tk, dx, dy, er, lo, hi'⟩ := x
        dsimp only at hx0 hx1 hx2 hx3 hx4 hx5 hx6 hx7 hx8 HX
        have hbl : b < wr.heap.size := World.block_lt_of_cell? wr _ hx0
        by_cases h0 : M = 0
        · subst h0
          rw [if_pos rfl] at hi
          have Hi := Lib.hid hi
          clear hi
          go_wp2_with fail
          refine wp_region_text (by kernel_rfl) (by kernel_rfl) ?_
          (repeat' (first | (refine bl_off (by rfl) ?_; simp only [Act.put, List.setIfInBounds_toArray, List.set_cons_zero, List.set_cons_succ]) | (apply bl_op; rfl; (intro w1 h1; obtain ⟨hc, hf, hz⟩ := bcell h1; go_simp; (try go_bits); (first | exact ⟨rfl, Ext.refl _⟩ | (apply gives_call; go_at_call 148; exact HX.out _ (by (repeat' (first | exact Ext.refl _ | assumption | apply Ext.alloc | apply Ext.drew | refine Ext.set ?_ (by dsimp only; omega) _ | refine Ext.trans ?_ (by assumption))))) | (go_invoke; go_simp; apply gives_call; go_at_call 148; exact HX.out _ (by (repeat' (first | exact Ext.refl _ | assumption | apply Ext.alloc | apply Ext.drew | refine Ext.set ?_ (by dsimp only; omega) _ | refine Ext.trans ?_ (by assumption))))))); simp only [Act.put, List.setIfInBounds_toArray, List.set_cons_zero, List.set_cons_succ]) | (refine bl_split rfl rfl (fun hx => ?_) (fun hx => ?_) <;> simp only [hx])))
          refine bl_nil ?_
          intro w1 h1
          obtain ⟨hc_w1, hf_w1, hz_w1⟩ := bcell h1; (repeat (first | rw [World.size_alloc] at hz_w1 | rw [World.size_drew] at hz_w1 | rw [World.size_setCell] at hz_w1)); (try (have : w.heap.size < w1.heap.size := (by omega))); (try (have : w.heap.size + 1 < w1.heap.size := (by omega))); (try (have : w.heap.size + 1 + 1 < w1.heap.size := (by omega))); (try (have : w.heap.size + 1 + 1 + 1 < w1.heap.size := (by omega))); (try (have : w.heap.size + 1 + 1 + 1 + 1 < w1.heap.size := (by omega)))
          go_wp2_with fail
          have E1 : Ext wr w1 := h1
          clear h1
          go_roundw
          case rel => exact ⟨k + 1, by omega, by go_num, Hi, hb.trans E1⟩
          case measure => simp [intOf]; omega
        · rw [if_neg h0] at hi
          have Hi := Lib.hid hi
          clear hi
          go_wp2_with fail
          refine wp_region_text (by kernel_rfl) (by kernel_rfl) ?_
          (repeat' (first | (refine bl_off (by rfl) ?_; simp only [Act.put, List.setIfInBounds_toArray, List.set_cons_zero, List.set_cons_succ]) | (apply bl_op; rfl; (intro w1 h1; obtain ⟨hc, hf, hz⟩ := bcell h1; go_simp; (try go_bits); (first | exact ⟨rfl, Ext.refl _⟩ | (apply gives_call; go_at_call 148; exact HX.out _ (by (repeat' (first | exact Ext.refl _ | assumption | apply Ext.alloc | apply Ext.drew | refine Ext.set ?_ (by dsimp only; omega) _ | refine Ext.trans ?_ (by assumption))))) | (go_invoke; go_simp; apply gives_call; go_at_call 148; exact HX.out _ (by (repeat' (first | exact Ext.refl _ | assumption | apply Ext.alloc | apply Ext.drew | refine Ext.set ?_ (by dsimp only; omega) _ | refine Ext.trans ?_ (by assumption))))))); simp only [Act.put, List.setIfInBounds_toArray, List.set_cons_zero, List.set_cons_succ]) | (refine bl_split rfl rfl (fun hx => ?_) (fun hx => ?_) <;> simp only [hx])))
          refine bl_nil ?_
          intro w1 h1
          obtain ⟨hc_w1, hf_w1, hz_w1⟩ := bcell h1; (repeat (first | rw [World.size_alloc] at hz_w1 | rw [World.size_drew] at hz_w1 | rw [World.size_setCell] at hz_w1)); (try (have : w.heap.size < w1.heap.size := (by omega))); (try (have : w.heap.size + 1 < w1.heap.size := (by omega))); (try (have : w.heap.size + 1 + 1 < w1.heap.size := (by omega))); (try (have : w.heap.size + 1 + 1 + 1 < w1.heap.size := (by omega))); (try (have : w.heap.size + 1 + 1 + 1 + 1 < w1.heap.size := (by omega)))
          go_wp2_with fail
          have E1 : Ext wr w1 := h1
          clear h1
          go_ret
          exact ⟨ret_i Hi.out, E.trans E1⟩
      · have hkn : k = n := by omega
        subst hkn
        have hi := HI.out
        rw [HLn.out, List.drop_length] at hi
        have Hi : Hid (0 = T) := hi
        clear hi HI
        go_wp2_with fail
        go_ret
        exact ⟨ret_i Hi.out, E⟩
set_option maxRecDepth 20000 in
set_option maxHeartbeats 4000000 in
theorem rParts_c (A : Option Addr) (n c : Nat) (l : List Bx) (w : World) (hl : Bxs w A n l) (hn : n ≤ 2000) :
    Calls Tryz.prog 109 #[.slice A n c] w fun e w' => ∃ v, e = .returned v ∧ OwnBxs w.heap.size w' v (halfL l) ∧ Ext w w' := by
  have HLn := Lib.hid hl.len
  have HL := Lib.hid fun W (hW : Ext w W) => Bxs.ext hW hl
  obtain ⟨ic, hic, hc0, hc1, hc2⟩ := info_parts info_box
  have HK := Lib.hid fun x W => rSplit_c x W
  obtain ⟨T, hT⟩ : ∃ T, halfL l = T := ⟨_, rfl⟩
  have hTl : T.length ≤ 4000 := by rw [← hT]; have := half_len l; have := hl.len; omega
  have HT := Lib.hid hT
  rw [hT]
  clear hl hT
  go_enter Tryz.func109, Tryz.ntmps109
  go_wp2_with fail
  go_loopw [3, 4] (fun o i wr => ∃ (k : Nat) (acc : List Bx), k ≤ n ∧ i = .int .i64 k ∧ Hid (acc ++ halfL (l.drop k) = T) ∧ Hid (OwnBxs w.heap.size wr o acc) ∧ Ext w wr) (fun _ i _ => n - (intOf i).toNat)
  case atStart => exact ⟨0, [], Nat.zero_le _, rfl, Lib.hid HT.out, OwnBxs.nil _ _, Ext.refl _⟩
  case round =>
    obtain ⟨k, acc, hk, rfl, HI, HO, E⟩ := hrel
    have hz := E.size
    by_cases hlt : k < n
    · obtain ⟨b, off, x, rfl, HD, _, hx⟩ := (HL.out wr E).one hlt
      have hi := HI.out
      have hlen := congrArg List.length hi
      rw [List.length_append] at hlen
      rw [HD.out, halfL, List.flatMap_cons, ← halfL, ← List.append_assoc] at hi
      have HBX := Lib.hid hx
      obtain ⟨hx0, hx1, hx2, hx3, hx4, hx5, hx6, hx7⟩ := hx
      have hbl : b < wr.heap.size := World.block_lt_of_cell? wr _ hx0
      have HX := Lib.hid fun W => HK.out x W
      unfold splitV at HX
      unfold halfB at hi
      clear HI HD
      cases hs : splitOk x
      · rw [hs] at hi HX
        simp only [Bool.false_eq_true, if_false] at hi HX
        have Hi := Lib.hid hi
        clear hi hs
        obtain ⟨⟨xl, xh⟩, ⟨yl, yh⟩, ⟨ul, uh⟩, vl, vh⟩ := x
        dsimp only [bxV, zeroB] at hx0 hx1 hx2 hx3 hx4 hx5 hx6 hx7 HX
        go_wp2_with fail
        refine (HX.out _).mono ?_
        rintro e w5 ⟨rfl, h5⟩
        have E5 : Ext wr w5 := h5
        obtain ⟨hy0, hy1, hy2, hy3, hy4, hy5, hy6, hy7⟩ := bxAt.ext h5 HBX.out
        have hbl5 : b < w5.heap.size := Nat.lt_of_lt_of_le hbl h5.size
        dsimp only at hy0 hy1 hy2 hy3 hy4 hy5 hy6 hy7
        have HO5 := Lib.hid (OwnBxs.ext HO.out E5)
        have hz5 := E5.size
        have EE := E.trans E5
        clear h5 HO hx0 hx1 hx2 hx3 hx4 hx5 hx6 hx7 hbl E5
        go_wp2_with (at_builtin; go_loud (refine wpList_append_sl rfl (.tmp 29) (.tmp 34) 39 rfl w.heap.size 38 ic _ 8 64 Tryz.underlying39 hic hc0 hc1 hc2 rfl (by decide) _ acc.length (acc.flatMap bxC) rfl (own_ext_keep HO5.out (by (repeat' (first | exact Ext.refl _ | assumption | apply Ext.alloc | apply Ext.drew | refine Ext.set ?_ (by dsimp only; omega) _ | refine Ext.trans ?_ (by assumption))))) (some ⟨_, 0, none⟩) 1 1 [.int .i64 xl, .int .i64 xh, .int .i64 yl, .int .i64 yh, .int .i64 ul, .int .i64 uh, .int .i64 vl, .int .i64 vh] rfl rfl (.inr ⟨_, rfl, new_cells (by simp)⟩) (by simp [Value.oneCell']) (by unfold maxLen; omega) (by omega) (by simp only [World.size_alloc]; omega) ?_))
        intro v' w6 ho6 hg6 _
        obtain ⟨ho, he⟩ := own_app (w0 := w) (OwnBxs.ext HO5.out ((((Ext.refl w5).alloc _).alloc _).alloc _)) (((EE.alloc _).alloc _).alloc _) (Nat.le_refl _) (show 1 = [(⟨⟨xl, xh⟩, ⟨yl, yh⟩, ⟨ul, uh⟩, vl, vh⟩ : Bx)].length from rfl) ho6 hg6
        have HO6 := Lib.hid ho
        clear ho ho6 hg6 HO5 EE
        go_wp2_with fail
        go_roundw
        case rel => exact ⟨k + 1, _, by omega, by go_num, Hi, HO6, he⟩
        case measure => simp [intOf]; omega
      · rw [hs] at hi HX
        simp only [if_true] at hi HX
        have Hi := Lib.hid hi
        clear hi hs
        generalize partL x = L at *
        generalize partR x = R at *
        obtain ⟨⟨xl, xh⟩, ⟨yl, yh⟩, ⟨ul, uh⟩, vl, vh⟩ := x
        obtain ⟨⟨lxl, lxh⟩, ⟨lyl, lyh⟩, ⟨lul, luh⟩, lvl, lvh⟩ := L
        obtain ⟨⟨rxl, rxh⟩, ⟨ryl, ryh⟩, ⟨rul, ruh⟩, rvl, rvh⟩ := R
        dsimp only [bxV] at hx0 hx1 hx2 hx3 hx4 hx5 hx6 hx7 HX
        go_wp2_with fail
        refine (HX.out _).mono ?_
        rintro e w5 ⟨rfl, h5⟩
        have E5 : Ext wr w5 := h5
        have HO5 := Lib.hid (OwnBxs.ext HO.out E5)
        have hz5 := E5.size
        have EE := E.trans E5
        clear h5 HO hx0 hx1 hx2 hx3 hx4 hx5 hx6 hx7 hbl E5
        go_wp2_with (at_builtin; go_loud (refine wpList_append_sl rfl (.tmp 24) (.tmp 27) 39 rfl w.heap.size 38 ic _ 8 64 Tryz.underlying39 hic hc0 hc1 hc2 rfl (by decide) _ acc.length (acc.flatMap bxC) rfl (own_ext_keep HO5.out (by (repeat' (first | exact Ext.refl _ | assumption | apply Ext.alloc | apply Ext.drew | refine Ext.set ?_ (by dsimp only; omega) _ | refine Ext.trans ?_ (by assumption))))) (some ⟨_, 0, none⟩) 2 2 [.int .i64 lxl, .int .i64 lxh, .int .i64 lyl, .int .i64 lyh, .int .i64 lul, .int .i64 luh, .int .i64 lvl, .int .i64 lvh, .int .i64 rxl, .int .i64 rxh, .int .i64 ryl, .int .i64 ryh, .int .i64 rul, .int .i64 ruh, .int .i64 rvl, .int .i64 rvh] rfl rfl (.inr ⟨_, rfl, new_cells (by simp)⟩) (by simp [Value.oneCell']) (by unfold maxLen; omega) (by omega) (by simp only [World.size_alloc]; omega) ?_))
        intro v' w6 ho6 hg6 _
        obtain ⟨ho, he⟩ := own_app (w0 := w) (OwnBxs.ext HO5.out ((((Ext.refl w5).alloc _).alloc _).alloc _)) (((EE.alloc _).alloc _).alloc _) (Nat.le_refl _) (show 2 = [(⟨⟨lxl, lxh⟩, ⟨lyl, lyh⟩, ⟨lul, luh⟩, lvl, lvh⟩ : Bx), ⟨⟨rxl, rxh⟩, ⟨ryl, ryh⟩, ⟨rul, ruh⟩, rvl, rvh⟩].length from rfl) ho6 hg6
        have HO6 := Lib.hid ho
        clear ho ho6 hg6 HO5 EE
        go_wp2_with fail
        go_roundw
        case rel => exact ⟨k + 1, _, by omega, by go_num, Hi, HO6, he⟩
        case measure => simp [intOf]; omega
    · have hkn : k = n := by omega
      subst hkn
      have hi := HI.out
      rw [HLn.out, List.drop_length] at hi
      have Hi : Hid (acc = T) := Lib.hid (by simpa [halfL] using hi)
      clear hi HI HLn
      go_wp2_with fail
      go_ret
      exact ⟨_, rfl, by rw [← Hi.out]; exact HO.out, E⟩
end Go.Proofs.YtfniicgoeljmdaaGreat
