/- Sets that are filtered and refined, or which error: the reference. No condition. OrbitFilters, walked: it returns true. No condition. OrbitFilters, lifted to what the statement says of a run. No condition. -/
import Derived.Test.YtfniicgoeljmdaaGreatRefParts
import Derived.Test.YtfniicgoeljmdaaGreatAwakeFour
import Derived.Test.YtfniicgoeljmdaaGreatOpen3
namespace Go.Proofs.YtfniicgoeljmdaaGreat
open Go.RowKit

set_option maxRecDepth 4000 in
set_option maxHeartbeats 1000000 in
theorem rAsked_c (A1 : Option Addr) (n1 c1 : Nat) (home : Int) (A2 : Option Addr) (n2 c2 : Nat) (A3 : Option Addr) (n3 c3 : Nat) (s : Sky) (tick : Int) (A : Option Addr) (n c : Nat) (l : List Bx) (B : Option Addr) (m d : Nat) (r : List Sight) (w : World) (hs : IsSky w A1 n1 home A2 n2 A3 n3 s) (hl : Bxs w A n l) (hr : Sights w B m r) :
    Calls Tryz.prog 106 #[.agg #[.slice A1 n1 c1, .int .i64 home, .slice A2 n2 c2, .slice A3 n3 c3], .int .i64 tick, .slice A n c, .slice B m d] w fun e w' => e = .returned (.int .i64 (askErr s tick l r)) ∧ Ext w w' := by
  have HC := Lib.hid fun W (hW : Ext w W) => refCheck_c A1 n1 c1 home A2 n2 c2 A3 n3 c3 s W (hs.ext hW)
  have HW := Lib.hid fun W => rBetween_c tick 0 1073741824 W
  have HS := Lib.hid fun W (hW : Ext w W) => rCheckSet_c A n c l W (Bxs.ext hW hl)
  have HG := Lib.hid fun W (hW : Ext w W) => rCheckSights_c A1 n1 c1 home A2 n2 c2 A3 n3 c3 s B m d r W (hs.ext hW) (Sights.ext hW hr)
  unfold askErr
  generalize skyErr s = e1 at *
  generalize setErr l = e3 at *
  generalize sgsErr s r = e4 at *
  generalize hwt : within tick 0 1073741824 = e2 at *
  clear hs hl hr hwt
  by_cases h1 : e1 = 0
  · subst h1
    cases e2
    · rw [if_neg (by simp), if_pos rfl]
      go_enter Tryz.func106, Tryz.ntmps106
      go_wp2_with fail
      refine (HC.out _ (by (repeat' (first | exact Ext.refl _ | assumption | apply Ext.alloc | apply Ext.drew | refine Ext.set ?_ (by dsimp only; omega) _ | refine Ext.trans ?_ (by assumption))))).mono ?_
      rintro e w1 ⟨rfl, h1⟩
      obtain ⟨hc_w1, hf_w1, hz_w1⟩ := bcell h1; (repeat (first | rw [World.size_alloc] at hz_w1 | rw [World.size_drew] at hz_w1 | rw [World.size_setCell] at hz_w1)); (try (have : w.heap.size < w1.heap.size := (by omega))); (try (have : w.heap.size + 1 < w1.heap.size := (by omega))); (try (have : w.heap.size + 1 + 1 < w1.heap.size := (by omega))); (try (have : w.heap.size + 1 + 1 + 1 < w1.heap.size := (by omega))); (try (have : w.heap.size + 1 + 1 + 1 + 1 < w1.heap.size := (by omega)))
      go_wp2_with fail
      refine (HW.out _).mono ?_
      rintro e w2 ⟨rfl, h2⟩
      obtain ⟨hc_w2, hf_w2, hz_w2⟩ := bcell h2; (repeat (first | rw [World.size_alloc] at hz_w2 | rw [World.size_drew] at hz_w2 | rw [World.size_setCell] at hz_w2)); (try (have : w.heap.size < w2.heap.size := (by omega))); (try (have : w.heap.size + 1 < w2.heap.size := (by omega))); (try (have : w.heap.size + 1 + 1 < w2.heap.size := (by omega))); (try (have : w.heap.size + 1 + 1 + 1 < w2.heap.size := (by omega))); (try (have : w.heap.size + 1 + 1 + 1 + 1 < w2.heap.size := (by omega)))
      go_wp2_with fail
      go_ret
      exact ⟨rfl, by (repeat' (first | exact Ext.refl _ | assumption | apply Ext.alloc | apply Ext.drew | refine Ext.set ?_ (by dsimp only; omega) _ | refine Ext.trans ?_ (by assumption)))⟩
    · rw [if_neg (by simp), if_neg (by simp)]
      by_cases h3 : e3 = 0
      · subst h3
        rw [if_neg (by simp)]
        go_enter Tryz.func106, Tryz.ntmps106
        go_wp2_with fail
        refine (HC.out _ (by (repeat' (first | exact Ext.refl _ | assumption | apply Ext.alloc | apply Ext.drew | refine Ext.set ?_ (by dsimp only; omega) _ | refine Ext.trans ?_ (by assumption))))).mono ?_
        rintro e w1 ⟨rfl, h1⟩
        obtain ⟨hc_w1, hf_w1, hz_w1⟩ := bcell h1; (repeat (first | rw [World.size_alloc] at hz_w1 | rw [World.size_drew] at hz_w1 | rw [World.size_setCell] at hz_w1)); (try (have : w.heap.size < w1.heap.size := (by omega))); (try (have : w.heap.size + 1 < w1.heap.size := (by omega))); (try (have : w.heap.size + 1 + 1 < w1.heap.size := (by omega))); (try (have : w.heap.size + 1 + 1 + 1 < w1.heap.size := (by omega))); (try (have : w.heap.size + 1 + 1 + 1 + 1 < w1.heap.size := (by omega)))
        go_wp2_with fail
        refine (HW.out _).mono ?_
        rintro e w2 ⟨rfl, h2⟩
        obtain ⟨hc_w2, hf_w2, hz_w2⟩ := bcell h2; (repeat (first | rw [World.size_alloc] at hz_w2 | rw [World.size_drew] at hz_w2 | rw [World.size_setCell] at hz_w2)); (try (have : w.heap.size < w2.heap.size := (by omega))); (try (have : w.heap.size + 1 < w2.heap.size := (by omega))); (try (have : w.heap.size + 1 + 1 < w2.heap.size := (by omega))); (try (have : w.heap.size + 1 + 1 + 1 < w2.heap.size := (by omega))); (try (have : w.heap.size + 1 + 1 + 1 + 1 < w2.heap.size := (by omega)))
        go_wp2_with fail
        refine (HS.out _ (by (repeat' (first | exact Ext.refl _ | assumption | apply Ext.alloc | apply Ext.drew | refine Ext.set ?_ (by dsimp only; omega) _ | refine Ext.trans ?_ (by assumption))))).mono ?_
        rintro e w3 ⟨rfl, h3⟩
        obtain ⟨hc_w3, hf_w3, hz_w3⟩ := bcell h3; (repeat (first | rw [World.size_alloc] at hz_w3 | rw [World.size_drew] at hz_w3 | rw [World.size_setCell] at hz_w3)); (try (have : w.heap.size < w3.heap.size := (by omega))); (try (have : w.heap.size + 1 < w3.heap.size := (by omega))); (try (have : w.heap.size + 1 + 1 < w3.heap.size := (by omega))); (try (have : w.heap.size + 1 + 1 + 1 < w3.heap.size := (by omega))); (try (have : w.heap.size + 1 + 1 + 1 + 1 < w3.heap.size := (by omega)))
        go_wp2_with fail
        refine (HG.out _ (by (repeat' (first | exact Ext.refl _ | assumption | apply Ext.alloc | apply Ext.drew | refine Ext.set ?_ (by dsimp only; omega) _ | refine Ext.trans ?_ (by assumption))))).mono ?_
        rintro e w4 ⟨rfl, h4⟩
        obtain ⟨hc_w4, hf_w4, hz_w4⟩ := bcell h4; (repeat (first | rw [World.size_alloc] at hz_w4 | rw [World.size_drew] at hz_w4 | rw [World.size_setCell] at hz_w4)); (try (have : w.heap.size < w4.heap.size := (by omega))); (try (have : w.heap.size + 1 < w4.heap.size := (by omega))); (try (have : w.heap.size + 1 + 1 < w4.heap.size := (by omega))); (try (have : w.heap.size + 1 + 1 + 1 < w4.heap.size := (by omega))); (try (have : w.heap.size + 1 + 1 + 1 + 1 < w4.heap.size := (by omega)))
        go_wp2_with fail
        go_ret
        exact ⟨rfl, by (repeat' (first | exact Ext.refl _ | assumption | apply Ext.alloc | apply Ext.drew | refine Ext.set ?_ (by dsimp only; omega) _ | refine Ext.trans ?_ (by assumption)))⟩
      · rw [if_pos h3]
        go_enter Tryz.func106, Tryz.ntmps106
        go_wp2_with fail
        refine (HC.out _ (by (repeat' (first | exact Ext.refl _ | assumption | apply Ext.alloc | apply Ext.drew | refine Ext.set ?_ (by dsimp only; omega) _ | refine Ext.trans ?_ (by assumption))))).mono ?_
        rintro e w1 ⟨rfl, h1⟩
        obtain ⟨hc_w1, hf_w1, hz_w1⟩ := bcell h1; (repeat (first | rw [World.size_alloc] at hz_w1 | rw [World.size_drew] at hz_w1 | rw [World.size_setCell] at hz_w1)); (try (have : w.heap.size < w1.heap.size := (by omega))); (try (have : w.heap.size + 1 < w1.heap.size := (by omega))); (try (have : w.heap.size + 1 + 1 < w1.heap.size := (by omega))); (try (have : w.heap.size + 1 + 1 + 1 < w1.heap.size := (by omega))); (try (have : w.heap.size + 1 + 1 + 1 + 1 < w1.heap.size := (by omega)))
        go_wp2_with fail
        refine (HW.out _).mono ?_
        rintro e w2 ⟨rfl, h2⟩
        obtain ⟨hc_w2, hf_w2, hz_w2⟩ := bcell h2; (repeat (first | rw [World.size_alloc] at hz_w2 | rw [World.size_drew] at hz_w2 | rw [World.size_setCell] at hz_w2)); (try (have : w.heap.size < w2.heap.size := (by omega))); (try (have : w.heap.size + 1 < w2.heap.size := (by omega))); (try (have : w.heap.size + 1 + 1 < w2.heap.size := (by omega))); (try (have : w.heap.size + 1 + 1 + 1 < w2.heap.size := (by omega))); (try (have : w.heap.size + 1 + 1 + 1 + 1 < w2.heap.size := (by omega)))
        go_wp2_with fail
        refine (HS.out _ (by (repeat' (first | exact Ext.refl _ | assumption | apply Ext.alloc | apply Ext.drew | refine Ext.set ?_ (by dsimp only; omega) _ | refine Ext.trans ?_ (by assumption))))).mono ?_
        rintro e w3 ⟨rfl, h3⟩
        obtain ⟨hc_w3, hf_w3, hz_w3⟩ := bcell h3; (repeat (first | rw [World.size_alloc] at hz_w3 | rw [World.size_drew] at hz_w3 | rw [World.size_setCell] at hz_w3)); (try (have : w.heap.size < w3.heap.size := (by omega))); (try (have : w.heap.size + 1 < w3.heap.size := (by omega))); (try (have : w.heap.size + 1 + 1 < w3.heap.size := (by omega))); (try (have : w.heap.size + 1 + 1 + 1 < w3.heap.size := (by omega))); (try (have : w.heap.size + 1 + 1 + 1 + 1 < w3.heap.size := (by omega)))
        go_wp2_with fail
        go_ret
        exact ⟨rfl, by (repeat' (first | exact Ext.refl _ | assumption | apply Ext.alloc | apply Ext.drew | refine Ext.set ?_ (by dsimp only; omega) _ | refine Ext.trans ?_ (by assumption)))⟩
  · rw [if_pos h1]
    go_enter Tryz.func106, Tryz.ntmps106
    go_wp2_with fail
    refine (HC.out _ (by (repeat' (first | exact Ext.refl _ | assumption | apply Ext.alloc | apply Ext.drew | refine Ext.set ?_ (by dsimp only; omega) _ | refine Ext.trans ?_ (by assumption))))).mono ?_
    rintro e w1 ⟨rfl, h1⟩
    obtain ⟨hc_w1, hf_w1, hz_w1⟩ := bcell h1; (repeat (first | rw [World.size_alloc] at hz_w1 | rw [World.size_drew] at hz_w1 | rw [World.size_setCell] at hz_w1)); (try (have : w.heap.size < w1.heap.size := (by omega))); (try (have : w.heap.size + 1 < w1.heap.size := (by omega))); (try (have : w.heap.size + 1 + 1 < w1.heap.size := (by omega))); (try (have : w.heap.size + 1 + 1 + 1 < w1.heap.size := (by omega))); (try (have : w.heap.size + 1 + 1 + 1 + 1 < w1.heap.size := (by omega)))
    go_wp2_with fail
    go_ret
    exact ⟨rfl, by (repeat' (first | exact Ext.refl _ | assumption | apply Ext.alloc | apply Ext.drew | refine Ext.set ?_ (by dsimp only; omega) _ | refine Ext.trans ?_ (by assumption)))⟩
theorem ask_512 {s : Sky} {tick : Int} {l : List Bx} {r : List Sight} (h0 : askErr s tick l r = 0) : l.length ≤ 512 := by
  unfold askErr at h0
  split at h0
  · contradiction
  · split at h0
    · cases h0
    · split at h0
      · contradiction
      · next h =>
        unfold setErr at h
        split at h
        · exact absurd (by decide) h
        · omega
set_option maxRecDepth 4000 in
set_option maxHeartbeats 1000000 in
theorem rFilter_c (A1 : Option Addr) (n1 c1 : Nat) (home : Int) (A2 : Option Addr) (n2 c2 : Nat) (A3 : Option Addr) (n3 c3 : Nat) (s : Sky) (tick : Int) (A : Option Addr) (n c : Nat) (l : List Bx) (B : Option Addr) (m d : Nat) (r : List Sight) (w : World) (hs : IsSky w A1 n1 home A2 n2 A3 n3 s) (hl : Bxs w A n l) (hr : Sights w B m r) :
    Calls Tryz.prog 50 #[.agg #[.slice A1 n1 c1, .int .i64 home, .slice A2 n2 c2, .slice A3 n3 c3], .int .i64 tick, .slice A n c, .slice B m d] w fun e w' => ∃ v, e = .returned (.tuple #[v, .int .i64 (askErr s tick l r)]) ∧ OwnBxs w.heap.size w' v (if askErr s tick l r = 0 then filtL s tick r l else []) ∧ Ext w w' := by
  have HQ := Lib.hid fun W (hW : Ext w W) => rAsked_c A1 n1 c1 home A2 n2 c2 A3 n3 c3 s tick A n c l B m d r W (hs.ext hW) (Bxs.ext hW hl) (Sights.ext hW hr)
  by_cases h : askErr s tick l r = 0
  · have hn : n ≤ 2000 := by have := ask_512 h; have := hl.len; omega
    have HF := Lib.hid fun W (hW : Ext w W) => rFilterL_c A1 n1 c1 home A2 n2 c2 A3 n3 c3 s tick A n c l B m d r W (hs.ext hW) (Bxs.ext hW hl) (Sights.ext hW hr) hn
    rw [h] at HQ ⊢
    rw [if_pos rfl]
    generalize filtL s tick r l = R at *
    clear hs hl hr h
    go_enter Tryz.func50, Tryz.ntmps50
    go_wp2_with fail
    refine (HQ.out _ (by (repeat' (first | exact Ext.refl _ | assumption | apply Ext.alloc | apply Ext.drew | refine Ext.set ?_ (by dsimp only; omega) _ | refine Ext.trans ?_ (by assumption))))).mono ?_
    rintro e w1 ⟨rfl, h1⟩
    obtain ⟨hc_w1, hf_w1, hz_w1⟩ := bcell h1; (repeat (first | rw [World.size_alloc] at hz_w1 | rw [World.size_drew] at hz_w1 | rw [World.size_setCell] at hz_w1)); (try (have : w.heap.size < w1.heap.size := (by omega))); (try (have : w.heap.size + 1 < w1.heap.size := (by omega))); (try (have : w.heap.size + 1 + 1 < w1.heap.size := (by omega))); (try (have : w.heap.size + 1 + 1 + 1 < w1.heap.size := (by omega))); (try (have : w.heap.size + 1 + 1 + 1 + 1 < w1.heap.size := (by omega)))
    go_wp2_with fail
    refine (HF.out _ (by (repeat' (first | exact Ext.refl _ | assumption | apply Ext.alloc | apply Ext.drew | refine Ext.set ?_ (by dsimp only; omega) _ | refine Ext.trans ?_ (by assumption))))).mono ?_
    rintro e w5 ⟨v, rfl, ho, h5⟩
    have HO := Lib.hid (ho.mono (base' := w.heap.size) (by omega))
    have E5 : Ext w w5 := Ext.trans (by (repeat' (first | exact Ext.refl _ | assumption | apply Ext.alloc | apply Ext.drew | refine Ext.set ?_ (by dsimp only; omega) _ | refine Ext.trans ?_ (by assumption)))) h5
    clear ho h5
    go_wp2_with fail
    (try simp only [Exit.inBlock, Exit.then]); apply bodyPost_ret; (focus (simp only [results, Tryz.results50]; go_simp; try rfl)); rfl
    exact ⟨_, rfl, HO.out, E5⟩
  · rw [if_neg h]
    generalize askErr s tick l r = E at *
    clear hs hl hr
    go_enter Tryz.func50, Tryz.ntmps50
    go_wp2_with fail
    refine (HQ.out _ (by (repeat' (first | exact Ext.refl _ | assumption | apply Ext.alloc | apply Ext.drew | refine Ext.set ?_ (by dsimp only; omega) _ | refine Ext.trans ?_ (by assumption))))).mono ?_
    rintro e w1 ⟨rfl, h1⟩
    obtain ⟨hc_w1, hf_w1, hz_w1⟩ := bcell h1; (repeat (first | rw [World.size_alloc] at hz_w1 | rw [World.size_drew] at hz_w1 | rw [World.size_setCell] at hz_w1)); (try (have : w.heap.size < w1.heap.size := (by omega))); (try (have : w.heap.size + 1 < w1.heap.size := (by omega))); (try (have : w.heap.size + 1 + 1 < w1.heap.size := (by omega))); (try (have : w.heap.size + 1 + 1 + 1 < w1.heap.size := (by omega))); (try (have : w.heap.size + 1 + 1 + 1 + 1 < w1.heap.size := (by omega)))
    go_wp2_with fail
    (try simp only [Exit.inBlock, Exit.then]); apply bodyPost_ret; (focus (simp only [results, Tryz.results50]; go_simp; try rfl)); rfl
    exact ⟨_, rfl, OwnBxs.nil _ _, by (repeat' (first | exact Ext.refl _ | assumption | apply Ext.alloc | apply Ext.drew | refine Ext.set ?_ (by dsimp only; omega) _ | refine Ext.trans ?_ (by assumption)))⟩
set_option maxRecDepth 4000 in
set_option maxHeartbeats 1000000 in
theorem rRefine_yes (A1 : Option Addr) (n1 c1 : Nat) (home : Int) (A2 : Option Addr) (n2 c2 : Nat) (A3 : Option Addr) (n3 c3 : Nat) (s : Sky) (tick : Int) (A : Option Addr) (n c : Nat) (l : List Bx) (B : Option Addr) (m d : Nat) (r : List Sight) (N : Nat) (w : World) (hs : IsSky w A1 n1 home A2 n2 A3 n3 s) (hl : Bxs w A n l) (hr : Sights w B m r) (h0 : askErr s tick l r = 0) (hN : N ≤ 20) :
    Calls Tryz.prog 52 #[.agg #[.slice A1 n1 c1, .int .i64 home, .slice A2 n2 c2, .slice A3 n3 c3], .int .i64 tick, .slice A n c, .slice B m d, .int .i64 (N : Int)] w fun e w' => ∃ v, e = .returned (.tuple #[v, .int .i64 0]) ∧ OwnBxs w.heap.size w' v (refM s tick r N l) ∧ Ext w w' := by
  have h512 : l.length ≤ 512 := ask_512 h0
  have hln := hl.len
  have HQ := Lib.hid fun W (hW : Ext w W) => rAsked_c A1 n1 c1 home A2 n2 c2 A3 n3 c3 s tick A n c l B m d r W (hs.ext hW) (Bxs.ext hW hl) (Sights.ext hW hr)
  rw [h0] at HQ
  have HL := Lib.hid fun W (hW : Ext w W) => Bxs.ext hW hl
  have HLn := Lib.hid hln
  obtain ⟨ic, hic, hc0, hc1, hc2⟩ := info_parts info_box
  have HH := Lib.hid fun A' (k c' : Nat) l' W (h : Bxs W A' k l') (hk : k ≤ 2000) => rParts_c A' k c' l' W h hk
  have HF := Lib.hid fun A' (k c' : Nat) l' W (hW : Ext w W) (h : Bxs W A' k l') (hk : k ≤ 2000) => rFilterL_c A1 n1 c1 home A2 n2 c2 A3 n3 c3 s tick A' k c' l' B m d r W (hs.ext hW) h (Sights.ext hW hr) hk
  obtain ⟨T, hT⟩ : ∃ T, refM s tick r N l = T := ⟨_, rfl⟩
  rw [hT]
  have HT := Lib.hid hT
  have hn5 : n ≤ 512 := by omega
  clear hT h0 hs hl hr hln
  go_enter Tryz.func52, Tryz.ntmps52
  go_wp2_with fail
  refine (HQ.out _ (by (repeat' (first | exact Ext.refl _ | assumption | apply Ext.alloc | apply Ext.drew | refine Ext.set ?_ (by dsimp only; omega) _ | refine Ext.trans ?_ (by assumption))))).mono ?_
  rintro e w1 ⟨rfl, h1⟩
  have B5 : Blk w1 w.heap.size 53 #[.slice A1 n1 c1, .int .i64 home, .slice A2 n2 c2, .slice A3 n3 c3] := (Blk.new w _ _).ext h1
  have E1 : Ext w w1 := (Ext.alloc0 _ _).trans h1
  have hz1 := E1.size
  clear h1 HQ
  go_wp2_with (at_builtin; go_loud (refine wpList_append_sl rfl (.tmp 34) (.tmp 35) 39 rfl w.heap.size 38 ic _ 8 64 Tryz.underlying39 hic hc0 hc1 hc2 rfl (by decide) _ 0 [] rfl (own_made rfl (by omega)) A n c (l.flatMap bxC) rfl (by rw [flat_len box_len, ← HLn.out]) (sl_news box_len (box_news _) (HL.out _ (by (repeat' (first | exact Ext.refl _ | assumption | apply Ext.alloc | apply Ext.drew | refine Ext.set ?_ (by dsimp only; omega) _ | refine Ext.trans ?_ (by assumption)))))) (flat_one box_one _) (by unfold maxLen; omega) (by omega) (by simp only [World.size_alloc]; omega) ?_))
  intro v2 w2 ho2 hg2 _
  have e2 : Ext w1 w2 := grown_ext (Ext.alloc0 _ _) hg2 (by intro j hj; simp [Value.ownBlock] at hj; omega)
  have HO2 : Hid (OwnBxs w.heap.size w2 v2 l) := by
    unfold Hid OwnBxs
    rw [← HLn.out]
    simpa using ho2
  replace B5 := B5.ext e2
  have E2 := E1.trans e2
  clear e2 ho2 hg2 E1 hz1 HL
  go_wp2_with fail
  go_loopw [13, 14] (fun o i wr => ∃ (k : Nat) (l' : List Bx), k ≤ N ∧ i = .int .i64 k ∧ Hid (OwnBxs w.heap.size wr o l') ∧ l'.length ≤ 512 ∧ Hid (refM s tick r (N - k) l' = T) ∧ Hid (Blk wr w.heap.size 53 #[.slice A1 n1 c1, .int .i64 home, .slice A2 n2 c2, .slice A3 n3 c3]) ∧ Ext w wr) (fun _ i _ => N - (intOf i).toNat)
  case atStart => exact ⟨0, l, Nat.zero_le _, rfl, HO2, h512, HT, B5, E2⟩
  case round =>
    clear HO2 B5 E2 HT
    obtain ⟨k, l', hk, rfl, HO, hl', HI, B5, E⟩ := hrel
    by_cases hlt : k < N
    · obtain ⟨A', c', rfl, hs', _⟩ := HO.out.cap
      have HS' := Lib.hid hs'
      clear hs'
      have hi := HI.out
      rw [show N - k = N - (k + 1) + 1 by omega, refM] at hi
      have hll := half_len l'
      go_wp2_with fail
      refine (HH.out A' l'.length c' l' _ HS'.out (by omega)).mono ?_
      rintro e w3 ⟨v3, rfl, ho3, h3⟩
      have hz := E.size
      obtain ⟨A3', c3', rfl, hs3, _⟩ := ho3.cap
      have HS3 := Lib.hid hs3
      have HO3 := Lib.hid (OwnBxs.ext HO.out h3)
      have B3 := B5.out.ext h3
      have E3 := E.trans h3
      clear hs3 ho3 h3 HO
      generalize halfL l' = L at *
      obtain ⟨q, hq⟩ : ∃ q, q = L.length := ⟨_, rfl⟩
      rw [← hq] at HS3 hll hi ⊢
      have c_B3 := B3.cell; have f_B3 := B3.frozen; have l_B3 := B3.lt
      by_cases h5 : 512 < q
      · rw [if_pos h5] at hi
        have Hi := Lib.hid hi
        clear hi HI hq
        go_wp2_with fail
        (try simp only [Exit.inBlock, Exit.then]); apply bodyPost_ret; (focus (simp only [results, Tryz.results52]; go_simp; try rfl)); rfl
        exact ⟨_, rfl, by rw [← Hi.out]; exact HO3.out, E3⟩
      · rw [if_neg h5] at hi
        have Hi := Lib.hid hi
        have hfl : (filtL s tick r L).length ≤ q := by rw [hq]; exact List.length_filter_le _ _
        clear hi HI hq
        go_wp2_with fail
        refine (HF.out A3' q c3' L _ E3 HS3.out (by omega)).mono ?_
        rintro e w4 ⟨v4, rfl, ho4, h4⟩
        have hz3 := E3.size
        have HO4 := Lib.hid (ho4.mono (base' := w.heap.size) (by omega))
        have B4 := Lib.hid (B3.ext h4)
        have E4 := E3.trans h4
        clear c_B3 f_B3 l_B3
        clear ho4 h4 B3
        go_wp2_with fail
        go_roundw
        case rel => exact ⟨k + 1, _, by omega, by go_num, HO4, by omega, Hi, B4, E4⟩
        case measure => simp [intOf]; omega
    · have hkn : k = N := by omega
      have hi := HI.out
      rw [hkn, Nat.sub_self, refM] at hi
      have Hi := Lib.hid hi
      clear hi HI
      go_wp2_with fail
      (try simp only [Exit.inBlock, Exit.then]); apply bodyPost_ret; (focus (simp only [results, Tryz.results52]; go_simp; try rfl)); rfl
      exact ⟨_, rfl, by rw [← Hi.out]; exact HO.out, E⟩
set_option maxRecDepth 4000 in
set_option maxHeartbeats 1000000 in
theorem rRefine_no (A1 : Option Addr) (n1 c1 : Nat) (home : Int) (A2 : Option Addr) (n2 c2 : Nat) (A3 : Option Addr) (n3 c3 : Nat) (s : Sky) (tick : Int) (A : Option Addr) (n c : Nat) (l : List Bx) (B : Option Addr) (m d : Nat) (r : List Sight) (N : Int) (w : World) (hs : IsSky w A1 n1 home A2 n2 A3 n3 s) (hl : Bxs w A n l) (hr : Sights w B m r) (h0 : refErr s tick l r N ≠ 0) :
    Calls Tryz.prog 52 #[.agg #[.slice A1 n1 c1, .int .i64 home, .slice A2 n2 c2, .slice A3 n3 c3], .int .i64 tick, .slice A n c, .slice B m d, .int .i64 N] w fun e w' => e = .returned (.tuple #[.slice none 0 0, .int .i64 (refErr s tick l r N)]) ∧ Ext w w' := by
  have HQ := Lib.hid fun W (hW : Ext w W) => rAsked_c A1 n1 c1 home A2 n2 c2 A3 n3 c3 s tick A n c l B m d r W (hs.ext hW) (Bxs.ext hW hl) (Sights.ext hW hr)
  unfold refErr at h0 ⊢
  generalize askErr s tick l r = E at *
  clear hs hl hr
  by_cases h1 : E = 0
  · subst h1
    rw [if_neg (by simp)] at h0 ⊢
    have h2 : N < 0 ∨ 20 < N := by
      refine Classical.byContradiction fun h => h0 ?_
      rw [if_neg h]
    rw [if_pos h2]
    clear h0
    rcases h2 with h2 | h2
    · go_enter Tryz.func52, Tryz.ntmps52
      go_wp2_with fail
      refine (HQ.out _ (by (repeat' (first | exact Ext.refl _ | assumption | apply Ext.alloc | apply Ext.drew | refine Ext.set ?_ (by dsimp only; omega) _ | refine Ext.trans ?_ (by assumption))))).mono ?_
      rintro e w1 ⟨rfl, h1⟩
      obtain ⟨hc_w1, hf_w1, hz_w1⟩ := bcell h1; (repeat (first | rw [World.size_alloc] at hz_w1 | rw [World.size_drew] at hz_w1 | rw [World.size_setCell] at hz_w1)); (try (have : w.heap.size < w1.heap.size := (by omega))); (try (have : w.heap.size + 1 < w1.heap.size := (by omega))); (try (have : w.heap.size + 1 + 1 < w1.heap.size := (by omega))); (try (have : w.heap.size + 1 + 1 + 1 < w1.heap.size := (by omega))); (try (have : w.heap.size + 1 + 1 + 1 + 1 < w1.heap.size := (by omega)))
      go_wp2_with fail
      (try simp only [Exit.inBlock, Exit.then]); apply bodyPost_ret; (focus (simp only [results, Tryz.results52]; go_simp; try rfl)); rfl
      exact ⟨rfl, by (repeat' (first | exact Ext.refl _ | assumption | apply Ext.alloc | apply Ext.drew | refine Ext.set ?_ (by dsimp only; omega) _ | refine Ext.trans ?_ (by assumption)))⟩
    · have h3 : ¬ N < 0 := by omega
      go_enter Tryz.func52, Tryz.ntmps52
      go_wp2_with fail
      refine (HQ.out _ (by (repeat' (first | exact Ext.refl _ | assumption | apply Ext.alloc | apply Ext.drew | refine Ext.set ?_ (by dsimp only; omega) _ | refine Ext.trans ?_ (by assumption))))).mono ?_
      rintro e w1 ⟨rfl, h1⟩
      obtain ⟨hc_w1, hf_w1, hz_w1⟩ := bcell h1; (repeat (first | rw [World.size_alloc] at hz_w1 | rw [World.size_drew] at hz_w1 | rw [World.size_setCell] at hz_w1)); (try (have : w.heap.size < w1.heap.size := (by omega))); (try (have : w.heap.size + 1 < w1.heap.size := (by omega))); (try (have : w.heap.size + 1 + 1 < w1.heap.size := (by omega))); (try (have : w.heap.size + 1 + 1 + 1 < w1.heap.size := (by omega))); (try (have : w.heap.size + 1 + 1 + 1 + 1 < w1.heap.size := (by omega)))
      go_wp2_with fail
      (try simp only [Exit.inBlock, Exit.then]); apply bodyPost_ret; (focus (simp only [results, Tryz.results52]; go_simp; try rfl)); rfl
      exact ⟨rfl, by (repeat' (first | exact Ext.refl _ | assumption | apply Ext.alloc | apply Ext.drew | refine Ext.set ?_ (by dsimp only; omega) _ | refine Ext.trans ?_ (by assumption)))⟩
  · rw [if_pos h1]
    clear h0
    go_enter Tryz.func52, Tryz.ntmps52
    go_wp2_with fail
    refine (HQ.out _ (by (repeat' (first | exact Ext.refl _ | assumption | apply Ext.alloc | apply Ext.drew | refine Ext.set ?_ (by dsimp only; omega) _ | refine Ext.trans ?_ (by assumption))))).mono ?_
    rintro e w1 ⟨rfl, h1⟩
    obtain ⟨hc_w1, hf_w1, hz_w1⟩ := bcell h1; (repeat (first | rw [World.size_alloc] at hz_w1 | rw [World.size_drew] at hz_w1 | rw [World.size_setCell] at hz_w1)); (try (have : w.heap.size < w1.heap.size := (by omega))); (try (have : w.heap.size + 1 < w1.heap.size := (by omega))); (try (have : w.heap.size + 1 + 1 < w1.heap.size := (by omega))); (try (have : w.heap.size + 1 + 1 + 1 < w1.heap.size := (by omega))); (try (have : w.heap.size + 1 + 1 + 1 + 1 < w1.heap.size := (by omega)))
    go_wp2_with fail
    (try simp only [Exit.inBlock, Exit.then]); apply bodyPost_ret; (focus (simp only [results, Tryz.results52]; go_simp; try rfl)); rfl
    exact ⟨rfl, by (repeat' (first | exact Ext.refl _ | assumption | apply Ext.alloc | apply Ext.drew | refine Ext.set ?_ (by dsimp only; omega) _ | refine Ext.trans ?_ (by assumption)))⟩
theorem rRefine_c (A1 : Option Addr) (n1 c1 : Nat) (home : Int) (A2 : Option Addr) (n2 c2 : Nat) (A3 : Option Addr) (n3 c3 : Nat) (s : Sky) (tick : Int) (A : Option Addr) (n c : Nat) (l : List Bx) (B : Option Addr) (m d : Nat) (r : List Sight) (N : Int) (w : World) (hs : IsSky w A1 n1 home A2 n2 A3 n3 s) (hl : Bxs w A n l) (hr : Sights w B m r) :
    Calls Tryz.prog 52 #[.agg #[.slice A1 n1 c1, .int .i64 home, .slice A2 n2 c2, .slice A3 n3 c3], .int .i64 tick, .slice A n c, .slice B m d, .int .i64 N] w fun e w' => ∃ v, e = .returned (.tuple #[v, .int .i64 (refErr s tick l r N)]) ∧ OwnBxs w.heap.size w' v (refL s tick l r N) ∧ Ext w w' := by
  unfold refL
  by_cases h : refErr s tick l r N = 0
  · rw [if_pos h, h]
    have h1 : askErr s tick l r = 0 ∧ 0 ≤ N ∧ N ≤ 20 := by
      unfold refErr at h
      by_cases h1 : askErr s tick l r = 0
      · rw [if_neg (by simp [h1])] at h
        refine ⟨h1, ?_⟩
        refine Classical.byContradiction fun h2 => ?_
        rw [if_pos (by omega)] at h
        cases h
      · rw [if_pos h1] at h
        exact absurd h h1
    have := rRefine_yes A1 n1 c1 home A2 n2 c2 A3 n3 c3 s tick A n c l B m d r N.toNat w hs hl hr h1.1 (by omega)
    rw [show ((N.toNat : Nat) : Int) = N by omega] at this
    exact this
  · rw [if_neg h]
    refine (rRefine_no A1 n1 c1 home A2 n2 c2 A3 n3 c3 s tick A n c l B m d r N w hs hl hr h).mono ?_
    rintro e w' ⟨he, h1⟩
    exact ⟨_, he, OwnBxs.nil _ _, h1⟩
end Go.Proofs.YtfniicgoeljmdaaGreat

namespace Go.Proofs.YtfniicgoeljmdaaGreat
open Go.RowKit Go.ChangeShapes Go.WideShapes Go.ChangeAt

set_option maxRecDepth 20000 in
set_option maxHeartbeats 4000000 in
theorem OrbitFilters_c (A1 : Option Addr) (n1 c1 : Nat) (home : Int) (A2 : Option Addr) (n2 c2 : Nat) (A3 : Option Addr) (n3 c3 : Nat) (s : Sky) (tick : Int) (A : Option Addr) (n c : Nat) (l : List Bx) (B : Option Addr) (m d : Nat) (r : List Sight) (N : Int) (w : World) (hs : IsSky w A1 n1 home A2 n2 A3 n3 s) (hl : Bxs w A n l) (_ : n ≤ c) (hr : Sights w B m r) :
    Calls Tryz.prog 8 #[.agg #[.slice A1 n1 c1, .int .i64 home, .slice A2 n2 c2, .slice A3 n3 c3], .int .i64 tick, .slice A n c, .slice B m d, .int .i64 N] w fun e w' => e = .returned (.bool true) ∧ Ext w w' := by
  have hn := hl.le
  have hm := hr.le
  have HA := Lib.hid fun W => awake4_c W
  have HB := Lib.hid fun W (hW : Ext w W) => BigSky_c A1 n1 c1 home A2 n2 c2 A3 n3 c3 s W (hs.ext hW)
  have HLn := Lib.hid hl.len
  have HL := Lib.hid fun W (hW : Ext w W) => Bxs.ext hW hl
  have HF := Lib.hid fun A' c' W (hW : Ext w W) (h : Bxs W A' n l) => oFilter_c A1 n1 c1 home A2 n2 c2 A3 n3 c3 s tick A' n c' l B m d r W (hs.ext hW) h (Sights.ext hW hr)
  have GF := Lib.hid fun W (hW : Ext w W) => rFilter_c A1 n1 c1 home A2 n2 c2 A3 n3 c3 s tick A n c l B m d r W (hs.ext hW) (Bxs.ext hW hl) (Sights.ext hW hr)
  have HR := Lib.hid fun A' c' W (hW : Ext w W) (h : Bxs W A' n l) => oRefine_c A1 n1 c1 home A2 n2 c2 A3 n3 c3 s tick A' n c' l B m d r N W (hs.ext hW) h (Sights.ext hW hr)
  have GR := Lib.hid fun W (hW : Ext w W) => rRefine_c A1 n1 c1 home A2 n2 c2 A3 n3 c3 s tick A n c l B m d r N W (hs.ext hW) (Bxs.ext hW hl) (Sights.ext hW hr)
  have HS := Lib.hid fun A' n' c' B' m' d' l' W => SameBoxes_c A' n' c' B' m' d' l' W
  generalize bigSky s = G at *
  by_cases hbig : G = true ∨ 40 < n ∨ 66 < m ∨ (6 < N ∧ N ≤ 20)
  · rcases (show G = true ∨ (G = false ∧ 40 < n) ∨ (G = false ∧ n ≤ 40 ∧ 66 < m) ∨ (G = false ∧ n ≤ 40 ∧ m ≤ 66 ∧ 6 < N ∧ N ≤ 20) by cases G <;> simp at hbig ⊢ <;> omega) with rfl | ⟨rfl, h1⟩ | ⟨rfl, h1, h2⟩ | ⟨rfl, h1, h2, h3, h4⟩
    all_goals clear hbig HF GF HR GR HS hs hl hr
    all_goals go_enter Tryz.func8, Tryz.ntmps8
    all_goals go_wp2_with fail
    all_goals refine (HB.out _ (by (repeat' (first | exact Ext.refl _ | assumption | apply Ext.alloc | apply Ext.drew | refine Ext.set ?_ (by dsimp only; omega) _ | refine Ext.trans ?_ (by assumption))))).mono ?_
    all_goals rintro e w1 ⟨rfl, h1⟩
    all_goals obtain ⟨hc_w1, hf_w1, hz_w1⟩ := bcell h1; (repeat (first | rw [World.size_alloc] at hz_w1 | rw [World.size_drew] at hz_w1 | rw [World.size_setCell] at hz_w1)); (try (have : w.heap.size < w1.heap.size := (by omega))); (try (have : w.heap.size + 1 < w1.heap.size := (by omega))); (try (have : w.heap.size + 1 + 1 < w1.heap.size := (by omega))); (try (have : w.heap.size + 1 + 1 + 1 < w1.heap.size := (by omega))); (try (have : w.heap.size + 1 + 1 + 1 + 1 < w1.heap.size := (by omega)))
    all_goals go_wp2_with fail
    all_goals refine (HA.out _).mono ?_
    all_goals rintro e w2 ⟨rfl, h2⟩
    all_goals obtain ⟨hc_w2, hf_w2, hz_w2⟩ := bcell h2; (repeat (first | rw [World.size_alloc] at hz_w2 | rw [World.size_drew] at hz_w2 | rw [World.size_setCell] at hz_w2)); (try (have : w.heap.size < w2.heap.size := (by omega))); (try (have : w.heap.size + 1 < w2.heap.size := (by omega))); (try (have : w.heap.size + 1 + 1 < w2.heap.size := (by omega))); (try (have : w.heap.size + 1 + 1 + 1 < w2.heap.size := (by omega))); (try (have : w.heap.size + 1 + 1 + 1 + 1 < w2.heap.size := (by omega)))
    all_goals go_wp2_with fail
    all_goals go_ret
    all_goals exact ⟨rfl, by (repeat' (first | exact Ext.refl _ | assumption | apply Ext.alloc | apply Ext.drew | refine Ext.set ?_ (by dsimp only; omega) _ | refine Ext.trans ?_ (by assumption)))⟩
  · obtain ⟨rfl, h1, h2, h3⟩ : G = false ∧ n ≤ 40 ∧ m ≤ 66 ∧ (N ≤ 6 ∨ 20 < N) := by cases G <;> simp at hbig ⊢ <;> omega
    have HO := Lib.hid fun W (hW : Ext w W) => OwnBoxes_c A n c l W (Bxs.ext hW hl) (by omega)
    generalize askErr s tick l r = e1 at *
    generalize refErr s tick l r N = e2 at *
    generalize (if e1 = 0 then filtL s tick r l else []) = L1 at *
    generalize refL s tick l r N = L2 at *
    clear hbig hs hl hr
    rcases (show N ≤ 6 ∨ (6 < N ∧ 20 < N) by omega) with h4 | ⟨h4, h5⟩
    all_goals clear h3
    all_goals go_enter Tryz.func8, Tryz.ntmps8
    all_goals go_wp2_with fail
    all_goals refine (HB.out _ (by (repeat' (first | exact Ext.refl _ | assumption | apply Ext.alloc | apply Ext.drew | refine Ext.set ?_ (by dsimp only; omega) _ | refine Ext.trans ?_ (by assumption))))).mono ?_
    all_goals rintro e V1 ⟨rfl, hV1⟩
    all_goals have B5 : Blk V1 w.heap.size 53 #[.slice A1 n1 c1, .int .i64 home, .slice A2 n2 c2, .slice A3 n3 c3] := (Blk.new w _ _).ext hV1
    all_goals have E : Ext w V1 := (Ext.alloc0 _ _).trans hV1
    all_goals clear hV1
    all_goals have c_B5 := B5.cell; have f_B5 := B5.frozen; have l_B5 := B5.lt
    all_goals go_wp2_with fail
    all_goals refine (HO.out _ E).mono ?_
    all_goals rintro e V2 ⟨v2, rfl, ho2, hV2⟩
    all_goals obtain ⟨A', c', rfl, hs2, _⟩ := ho2.cap
    all_goals rw [← HLn.out] at hs2 ⊢
    all_goals clear c_B5 f_B5 l_B5
    all_goals replace B5 := B5.ext hV2
    all_goals replace E := E.trans hV2
    all_goals have HOW := Lib.hid fun W (hW : Ext V2 W) => Bxs.ext hW hs2
    all_goals clear hV2 ho2 hs2 HO
    all_goals have c_B5 := B5.cell; have f_B5 := B5.frozen; have l_B5 := B5.lt
    all_goals go_wp2_with fail
    all_goals refine (HF.out A' c' _ E (HOW.out _ (by (repeat' (first | exact Ext.refl _ | assumption | apply Ext.alloc | apply Ext.drew | refine Ext.set ?_ (by dsimp only; omega) _ | refine Ext.trans ?_ (by assumption)))))).mono ?_
    all_goals rintro e V3 ⟨v3, rfl, ho3, hV3⟩
    all_goals obtain ⟨A3', c3', rfl, hs3, _⟩ := ho3.cap
    all_goals clear c_B5 f_B5 l_B5
    all_goals replace B5 := B5.ext hV3
    all_goals replace E := E.trans hV3
    all_goals have HOW3 := Lib.hid fun W (hW : Ext V3 W) => HOW.out W (hV3.trans hW)
    all_goals have HP3 := Lib.hid fun W (hW : Ext V3 W) => Bxs.ext hW hs3
    all_goals clear hV3 ho3 hs3 HOW
    all_goals have c_B5 := B5.cell; have f_B5 := B5.frozen; have l_B5 := B5.lt
    all_goals go_wp2_with fail
    all_goals refine (GF.out _ E).mono ?_
    all_goals rintro e V4 ⟨v4, rfl, ho4, hV4⟩
    all_goals obtain ⟨A4, c4, rfl, hs4, _⟩ := ho4.cap
    all_goals clear c_B5 f_B5 l_B5
    all_goals replace B5 := B5.ext hV4
    all_goals replace E := E.trans hV4
    all_goals have HOW4 := Lib.hid fun W (hW : Ext V4 W) => HOW3.out W (hV4.trans hW)
    all_goals have HP4 := Lib.hid fun W (hW : Ext V4 W) => HP3.out W (hV4.trans hW)
    all_goals have HQ4 := Lib.hid fun W (hW : Ext V4 W) => Bxs.ext hW hs4
    all_goals clear hV4 ho4 hs4 HOW3 HP3
    all_goals have c_B5 := B5.cell; have f_B5 := B5.frozen; have l_B5 := B5.lt
    all_goals go_wp2_with fail
    all_goals refine (HR.out A' c' _ E (HOW4.out _ (by (repeat' (first | exact Ext.refl _ | assumption | apply Ext.alloc | apply Ext.drew | refine Ext.set ?_ (by dsimp only; omega) _ | refine Ext.trans ?_ (by assumption)))))).mono ?_
    all_goals rintro e V5 ⟨v5, rfl, ho5, hV5⟩
    all_goals obtain ⟨A5, c5, rfl, hs5, _⟩ := ho5.cap
    all_goals clear c_B5 f_B5 l_B5
    all_goals replace B5 := B5.ext hV5
    all_goals replace E := E.trans hV5
    all_goals have HOW5 := Lib.hid fun W (hW : Ext V5 W) => HOW4.out W (hV5.trans hW)
    all_goals have HP5 := Lib.hid fun W (hW : Ext V5 W) => HP4.out W (hV5.trans hW)
    all_goals have HQ5 := Lib.hid fun W (hW : Ext V5 W) => HQ4.out W (hV5.trans hW)
    all_goals have HX5 := Lib.hid fun W (hW : Ext V5 W) => Bxs.ext hW hs5
    all_goals clear hV5 ho5 hs5 HOW4 HP4 HQ4
    all_goals have c_B5 := B5.cell; have f_B5 := B5.frozen; have l_B5 := B5.lt
    all_goals go_wp2_with fail
    all_goals refine (GR.out _ E).mono ?_
    all_goals rintro e V6 ⟨v6, rfl, ho6, hV6⟩
    all_goals obtain ⟨A6, c6, rfl, hs6, _⟩ := ho6.cap
    all_goals clear c_B5 f_B5 l_B5
    all_goals replace E := E.trans hV6
    all_goals have Q1 := Lib.hid fun W (hW : Ext V6 W) => HS.out _ _ c3' _ _ c4 _ W (HP5.out W (hV6.trans hW)) (HQ5.out W (hV6.trans hW))
    all_goals have Q2 := Lib.hid fun W (hW : Ext V6 W) => HS.out _ _ c5 _ _ c6 _ W (HX5.out W (hV6.trans hW)) (Bxs.ext hW hs6)
    all_goals have Q3 := Lib.hid fun W (hW : Ext V6 W) => HS.out _ _ c' _ _ c _ W (HOW5.out W (hV6.trans hW)) (HL.out W (E.trans hW))
    all_goals clear hV6 ho6 hs6 HOW5 HP5 HQ5 HX5 B5 HF GF HR GR HB HS HL
    all_goals go_wp2_with fail
    all_goals refine (Q1.out _ (by (repeat' (first | exact Ext.refl _ | assumption | apply Ext.alloc | apply Ext.drew | refine Ext.set ?_ (by dsimp only; omega) _ | refine Ext.trans ?_ (by assumption))))).mono ?_
    all_goals rintro e w7 ⟨rfl, h7⟩
    all_goals obtain ⟨hc_w7, hf_w7, hz_w7⟩ := bcell h7; (repeat (first | rw [World.size_alloc] at hz_w7 | rw [World.size_drew] at hz_w7 | rw [World.size_setCell] at hz_w7)); (try (have : w.heap.size < w7.heap.size := (by omega))); (try (have : w.heap.size + 1 < w7.heap.size := (by omega))); (try (have : w.heap.size + 1 + 1 < w7.heap.size := (by omega))); (try (have : w.heap.size + 1 + 1 + 1 < w7.heap.size := (by omega))); (try (have : w.heap.size + 1 + 1 + 1 + 1 < w7.heap.size := (by omega)))
    all_goals go_wp2_with fail
    all_goals refine (Q2.out _ (by (repeat' (first | exact Ext.refl _ | assumption | apply Ext.alloc | apply Ext.drew | refine Ext.set ?_ (by dsimp only; omega) _ | refine Ext.trans ?_ (by assumption))))).mono ?_
    all_goals rintro e w8 ⟨rfl, h8⟩
    all_goals obtain ⟨hc_w8, hf_w8, hz_w8⟩ := bcell h8; (repeat (first | rw [World.size_alloc] at hz_w8 | rw [World.size_drew] at hz_w8 | rw [World.size_setCell] at hz_w8)); (try (have : w.heap.size < w8.heap.size := (by omega))); (try (have : w.heap.size + 1 < w8.heap.size := (by omega))); (try (have : w.heap.size + 1 + 1 < w8.heap.size := (by omega))); (try (have : w.heap.size + 1 + 1 + 1 < w8.heap.size := (by omega))); (try (have : w.heap.size + 1 + 1 + 1 + 1 < w8.heap.size := (by omega)))
    all_goals go_wp2_with fail
    all_goals refine (Q3.out _ (by (repeat' (first | exact Ext.refl _ | assumption | apply Ext.alloc | apply Ext.drew | refine Ext.set ?_ (by dsimp only; omega) _ | refine Ext.trans ?_ (by assumption))))).mono ?_
    all_goals rintro e w9 ⟨rfl, h9⟩
    all_goals obtain ⟨hc_w9, hf_w9, hz_w9⟩ := bcell h9; (repeat (first | rw [World.size_alloc] at hz_w9 | rw [World.size_drew] at hz_w9 | rw [World.size_setCell] at hz_w9)); (try (have : w.heap.size < w9.heap.size := (by omega))); (try (have : w.heap.size + 1 < w9.heap.size := (by omega))); (try (have : w.heap.size + 1 + 1 < w9.heap.size := (by omega))); (try (have : w.heap.size + 1 + 1 + 1 < w9.heap.size := (by omega))); (try (have : w.heap.size + 1 + 1 + 1 + 1 < w9.heap.size := (by omega)))
    all_goals go_wp2_with fail
    all_goals refine (HA.out _).mono ?_
    all_goals rintro e w10 ⟨rfl, h10⟩
    all_goals obtain ⟨hc_w10, hf_w10, hz_w10⟩ := bcell h10; (repeat (first | rw [World.size_alloc] at hz_w10 | rw [World.size_drew] at hz_w10 | rw [World.size_setCell] at hz_w10)); (try (have : w.heap.size < w10.heap.size := (by omega))); (try (have : w.heap.size + 1 < w10.heap.size := (by omega))); (try (have : w.heap.size + 1 + 1 < w10.heap.size := (by omega))); (try (have : w.heap.size + 1 + 1 + 1 < w10.heap.size := (by omega))); (try (have : w.heap.size + 1 + 1 + 1 + 1 < w10.heap.size := (by omega)))
    all_goals go_wp2_with fail
    all_goals go_ret
    all_goals exact ⟨rfl, by (repeat' (first | exact Ext.refl _ | assumption | apply Ext.alloc | apply Ext.drew | refine Ext.set ?_ (by dsimp only; omega) _ | refine Ext.trans ?_ (by assumption)))⟩
end Go.Proofs.YtfniicgoeljmdaaGreat

namespace Go.Proofs.YtfniicgoeljmdaaGreat
open Go.RowKit Go.ChangeShapes Go.WideShapes Go.ChangeAt

set_option maxRecDepth 100000 in
set_option maxHeartbeats 1000000 in
theorem filters_lifted (os : Os) (started : os.Started) (H : Type) (enc : TypeId × Value → H) :
    ReturnsInHanded {} Tryz.checked os 8 .any (Rows.orbitFiltersSpec.pre6 enc Tryz.prog Tryz.f8 Rows.orbitFiltersRow.domain false) (Rows.orbitFiltersSpec.post enc Tryz.prog Tryz.f8 false true false false) := by
  refine returnsInHanded_of_change (C := Tryz.checked) own started (by kernel_rfl) Tryz.func8
    (ChangeSpec.witness6 (enc := enc) (C := Tryz.checked) false ⟨#[], #[.agg #[.slice none 0 0, .int .i64 0, .slice none 0 0, .slice none 0 0], .int .i64 0, .slice none 0 0, .slice none 0 0, .int .i64 0], []⟩ 8 (by kernel_rfl) (by kernel_rfl) (by kernel_rfl) (by kernel_rfl)) ?_
  intro W base args ds gs before hval0 hW _ _
  have hval : ∀ (j : Nat) t v, Tryz.f8.params[j]? = some t → args[j]? = some v → Value.okWide Tryz.prog W .any base t v := hval0
  have hW' := hW
  obtain ⟨p, q, hA0, hV, rfl, hfz, hnd⟩ := hW
  have hA : DataW.TrodAll enc Tryz.prog W 0 (fun _ => true) true Tryz.f8.params.toList args.toList ds p := hA0
  rw [Tryz.params8] at hA hval
  obtain ⟨v0, vs0, d0, ds0, p0, q0, hargs, rfl, rfl, h0, r0⟩ := trodAll_cons hA
  obtain ⟨v1, vs1, d1, ds1, p1, q1, rfl, rfl, rfl, h1, r1⟩ := trodAll_cons r0
  obtain ⟨v2, vs2, d2, ds2, p2, q2, rfl, rfl, rfl, h2, r2⟩ := trodAll_cons r1
  obtain ⟨v3, vs3, d3, ds3, p3, q3, rfl, rfl, rfl, h3, r3⟩ := trodAll_cons r2
  obtain ⟨v4, vs4, d4, ds4, p4, q4, rfl, rfl, rfl, h4, r4⟩ := trodAll_cons r3
  obtain ⟨rfl, rfl, rfl⟩ := trodAll_nil r4
  obtain ⟨rfl, rfl⟩ := trodVars_none hV
  obtain rfl : args = #[v0, v1, v2, v3, v4] := by cases args; simp_all
  obtain ⟨cs0, rfl, _⟩ := okWide_struct Tryz.underlying53 (hval 0 _ v0 rfl rfl)
  obtain ⟨fuel0, h0⟩ := h0
  obtain ⟨A1_0, n1_0, c1_0, home_0, A2_0, n2_0, c2_0, A3_0, n3_0, c3_0, s_0, e0, hs0⟩ := open_sky h0
  obtain ⟨cs0⟩ := cs0
  obtain rfl : cs0 = _ := e0
  obtain ⟨m1, rfl⟩ := okWide_int Tryz.underlying2 (hval 1 _ v1 rfl rfl)
  obtain ⟨A2, len2, cap2, rfl⟩ := okWide_slice Tryz.underlying39 (hval 2 _ v2 rfl rfl)
  obtain ⟨fuel2, h2⟩ := h2
  obtain ⟨A_2, n_2, c_2, l_2, e2, hl2, hc2⟩ := open_boxes h2
  injection e2 with e2 _; injection e2 with e2a e2b e2c; subst e2a e2b e2c
  obtain ⟨A3, len3, cap3, rfl⟩ := okWide_slice Tryz.underlying70 (hval 3 _ v3 rfl rfl)
  obtain ⟨fuel3, h3⟩ := h3
  obtain ⟨A_3, n_3, c_3, l_3, e3, hl3⟩ := open_sights h3
  injection e3 with e3 _; injection e3 with e3a e3b e3c; subst e3a e3b e3c
  obtain ⟨m4, rfl⟩ := okWide_int Tryz.underlying3 (hval 4 _ v4 rfl rfl)
  refine (OrbitFilters_c A1_0 n1_0 c1_0 home_0 A2_0 n2_0 c2_0 A3_0 n3_0 c3_0 s_0 _ A2 len2 cap2 l_2 A3 len3 cap3 l_3 _ W hs0  hl2 hc2 hl3 ).mono fun e W' ⟨he, hb⟩ => ?_
  subst he
  exact ⟨_, rfl, law_post (by kernel_rfl) rfl rfl hW' rfl hb⟩

end Go.Proofs.YtfniicgoeljmdaaGreat
