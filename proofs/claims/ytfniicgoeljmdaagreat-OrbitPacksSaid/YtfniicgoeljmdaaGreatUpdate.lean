/- Sets that are filtered and refined, or which error: the program. No condition. Sets that are updated, handed out tick by tick: the program. No condition. -/
import Derived.Test.YtfniicgoeljmdaaGreatProp
import Derived.Test.YtfniicgoeljmdaaGreatTold
import Derived.Test.YtfniicgoeljmdaaGreatFilter
import Derived.Test.YtfniicgoeljmdaaGreatForcePulls
namespace Go.Proofs.YtfniicgoeljmdaaGreat
open Go.RowKit

set_option maxRecDepth 4000 in
set_option maxHeartbeats 1000000 in
theorem oFilter_c (A1 : Option Addr) (n1 c1 : Nat) (home : Int) (A2 : Option Addr) (n2 c2 : Nat) (A3 : Option Addr) (n3 c3 : Nat) (s : Sky) (tick : Int) (A : Option Addr) (n c : Nat) (l : List Bx) (B : Option Addr) (m d : Nat) (r : List Sight) (w : World) (hs : IsSky w A1 n1 home A2 n2 A3 n3 s) (hl : Bxs w A n l) (hr : Sights w B m r) :
    Calls Tryz.prog 49 #[.agg #[.slice A1 n1 c1, .int .i64 home, .slice A2 n2 c2, .slice A3 n3 c3], .int .i64 tick, .slice A n c, .slice B m d] w fun e w' => ∃ v, e = .returned (.tuple #[v, .int .i64 (fltErr s tick l r)]) ∧ OwnBxs w.heap.size w' v (if fltErr s tick l r = 0 then filtL s tick r l else []) ∧ Ext w w' := by
  have HC := Lib.hid fun W (hW : Ext w W) => Check_c A1 n1 c1 home A2 n2 c2 A3 n3 c3 s W (hs.ext hW)
  have HW := Lib.hid fun W => oWithin_c tick 0 1073741824 W
  have HS := Lib.hid fun W (hW : Ext w W) => oCheckSet_c A n c l W (Bxs.ext hW hl)
  have HG := Lib.hid fun W (hW : Ext w W) => oCheckSights_c A1 n1 c1 home A2 n2 c2 A3 n3 c3 s B m d r W (hs.ext hW) (Sights.ext hW hr)
  have HF : Hid (setErr l = 0 → ∀ W, Ext w W → Calls Tryz.prog 105 #[.agg #[.slice A1 n1 c1, .int .i64 home, .slice A2 n2 c2, .slice A3 n3 c3], .int .i64 tick, .slice A n c, .slice B m d] W fun e w' => ∃ v, e = .returned v ∧ OwnBxs W.heap.size w' v (filtL s tick r l) ∧ Ext W w') := by
    refine Lib.hid fun h W hW => oFilterL_c A1 n1 c1 home A2 n2 c2 A3 n3 c3 s tick A n c l B m d r W (hs.ext hW) (Bxs.ext hW hl) (Sights.ext hW hr) ?_
    have h1 := hl.len
    unfold setErr at h
    split at h
    · cases h
    · omega
  unfold fltErr
  generalize filtL s tick r l = R at *
  generalize skyErr s = e1 at *
  generalize setErr l = e3 at *
  generalize sgsErr s r = e4 at *
  generalize hwt : within tick 0 1073741824 = e2 at *
  clear hs hl hr hwt
  by_cases h1 : e1 = 0
  · subst h1
    cases e2
    · rw [if_neg (by simp), if_pos rfl, if_neg (by decide)]
      go_enter Tryz.func49, Tryz.ntmps49
      go_wp2_with fail
      refine (HC.out _ ext_by).mono ?_
      rintro e w1 ⟨rfl, h1⟩
      obtain ⟨hc_w1, hf_w1, hz_w1⟩ := bcell h1; (try simp only [szA] at hz_w1); (try have := wz0 w w1); (try have := wz1 w w1); (try have := wz2 w w1); (try have := wz3 w w1); (try have := wz4 w w1)
      go_wp2_with fail
      refine (HW.out _).mono ?_
      rintro e w2 ⟨rfl, h2⟩
      obtain ⟨hc_w2, hf_w2, hz_w2⟩ := bcell h2; (try simp only [szA] at hz_w2); (try have := wz0 w w2); (try have := wz1 w w2); (try have := wz2 w w2); (try have := wz3 w w2); (try have := wz4 w w2)
      go_wp2_with fail
      (try simp only [Exit.inBlock, Exit.then]); apply bodyPost_ret; (focus (simp only [results, Tryz.results49]; go_simp; try rfl)); rfl
      exact ⟨_, rfl, OwnBxs.nil _ _, ext_by⟩
    · rw [if_neg (by simp), if_neg (by simp)]
      by_cases h3 : e3 = 0
      · subst h3
        rw [if_neg (by simp)]
        have HF2 : Hid (∀ W, Ext w W → Calls Tryz.prog 105 #[.agg #[.slice A1 n1 c1, .int .i64 home, .slice A2 n2 c2, .slice A3 n3 c3], .int .i64 tick, .slice A n c, .slice B m d] W fun e w' => ∃ v, e = .returned v ∧ OwnBxs W.heap.size w' v R ∧ Ext W w') := Lib.hid (HF.out rfl)
        clear HF
        by_cases h4 : e4 = 0
        · subst h4
          rw [if_pos rfl]
          go_enter Tryz.func49, Tryz.ntmps49
          go_wp2_with fail
          refine (HC.out _ ext_by).mono ?_
          rintro e w1 ⟨rfl, h1⟩
          obtain ⟨hc_w1, hf_w1, hz_w1⟩ := bcell h1; (try simp only [szA] at hz_w1); (try have := wz0 w w1); (try have := wz1 w w1); (try have := wz2 w w1); (try have := wz3 w w1); (try have := wz4 w w1)
          go_wp2_with fail
          refine (HW.out _).mono ?_
          rintro e w2 ⟨rfl, h2⟩
          obtain ⟨hc_w2, hf_w2, hz_w2⟩ := bcell h2; (try simp only [szA] at hz_w2); (try have := wz0 w w2); (try have := wz1 w w2); (try have := wz2 w w2); (try have := wz3 w w2); (try have := wz4 w w2)
          go_wp2_with fail
          refine (HS.out _ ext_by).mono ?_
          rintro e w3 ⟨rfl, h3⟩
          obtain ⟨hc_w3, hf_w3, hz_w3⟩ := bcell h3; (try simp only [szA] at hz_w3); (try have := wz0 w w3); (try have := wz1 w w3); (try have := wz2 w w3); (try have := wz3 w w3); (try have := wz4 w w3)
          go_wp2_with fail
          refine (HG.out _ ext_by).mono ?_
          rintro e w4 ⟨rfl, h4⟩
          obtain ⟨hc_w4, hf_w4, hz_w4⟩ := bcell h4; (try simp only [szA] at hz_w4); (try have := wz0 w w4); (try have := wz1 w w4); (try have := wz2 w w4); (try have := wz3 w w4); (try have := wz4 w w4)
          go_wp2_with fail
          refine (HF2.out _ ext_by).mono ?_
          rintro e w5 ⟨v, rfl, ho, h5⟩
          have HO := Lib.hid (ho.mono (base' := w.heap.size) (by omega))
          have E5 : Ext w w5 := Ext.trans ext_by h5
          clear ho h5
          go_wp2_with fail
          (try simp only [Exit.inBlock, Exit.then]); apply bodyPost_ret; (focus (simp only [results, Tryz.results49]; go_simp; try rfl)); rfl
          exact ⟨_, rfl, HO.out, E5⟩
        · rw [if_neg h4]
          go_enter Tryz.func49, Tryz.ntmps49
          go_wp2_with fail
          refine (HC.out _ ext_by).mono ?_
          rintro e w1 ⟨rfl, h1⟩
          obtain ⟨hc_w1, hf_w1, hz_w1⟩ := bcell h1; (try simp only [szA] at hz_w1); (try have := wz0 w w1); (try have := wz1 w w1); (try have := wz2 w w1); (try have := wz3 w w1); (try have := wz4 w w1)
          go_wp2_with fail
          refine (HW.out _).mono ?_
          rintro e w2 ⟨rfl, h2⟩
          obtain ⟨hc_w2, hf_w2, hz_w2⟩ := bcell h2; (try simp only [szA] at hz_w2); (try have := wz0 w w2); (try have := wz1 w w2); (try have := wz2 w w2); (try have := wz3 w w2); (try have := wz4 w w2)
          go_wp2_with fail
          refine (HS.out _ ext_by).mono ?_
          rintro e w3 ⟨rfl, h3⟩
          obtain ⟨hc_w3, hf_w3, hz_w3⟩ := bcell h3; (try simp only [szA] at hz_w3); (try have := wz0 w w3); (try have := wz1 w w3); (try have := wz2 w w3); (try have := wz3 w w3); (try have := wz4 w w3)
          go_wp2_with fail
          refine (HG.out _ ext_by).mono ?_
          rintro e w4 ⟨rfl, h4⟩
          obtain ⟨hc_w4, hf_w4, hz_w4⟩ := bcell h4; (try simp only [szA] at hz_w4); (try have := wz0 w w4); (try have := wz1 w w4); (try have := wz2 w w4); (try have := wz3 w w4); (try have := wz4 w w4)
          go_wp2_with fail
          (try simp only [Exit.inBlock, Exit.then]); apply bodyPost_ret; (focus (simp only [results, Tryz.results49]; go_simp; try rfl)); rfl
          exact ⟨_, rfl, OwnBxs.nil _ _, ext_by⟩
      · rw [if_pos h3, if_neg h3]
        go_enter Tryz.func49, Tryz.ntmps49
        go_wp2_with fail
        refine (HC.out _ ext_by).mono ?_
        rintro e w1 ⟨rfl, h1⟩
        obtain ⟨hc_w1, hf_w1, hz_w1⟩ := bcell h1; (try simp only [szA] at hz_w1); (try have := wz0 w w1); (try have := wz1 w w1); (try have := wz2 w w1); (try have := wz3 w w1); (try have := wz4 w w1)
        go_wp2_with fail
        refine (HW.out _).mono ?_
        rintro e w2 ⟨rfl, h2⟩
        obtain ⟨hc_w2, hf_w2, hz_w2⟩ := bcell h2; (try simp only [szA] at hz_w2); (try have := wz0 w w2); (try have := wz1 w w2); (try have := wz2 w w2); (try have := wz3 w w2); (try have := wz4 w w2)
        go_wp2_with fail
        refine (HS.out _ ext_by).mono ?_
        rintro e w3 ⟨rfl, h3⟩
        obtain ⟨hc_w3, hf_w3, hz_w3⟩ := bcell h3; (try simp only [szA] at hz_w3); (try have := wz0 w w3); (try have := wz1 w w3); (try have := wz2 w w3); (try have := wz3 w w3); (try have := wz4 w w3)
        go_wp2_with fail
        (try simp only [Exit.inBlock, Exit.then]); apply bodyPost_ret; (focus (simp only [results, Tryz.results49]; go_simp; try rfl)); rfl
        exact ⟨_, rfl, OwnBxs.nil _ _, ext_by⟩
  · rw [if_pos h1, if_neg h1]
    go_enter Tryz.func49, Tryz.ntmps49
    go_wp2_with fail
    refine (HC.out _ ext_by).mono ?_
    rintro e w1 ⟨rfl, h1⟩
    obtain ⟨hc_w1, hf_w1, hz_w1⟩ := bcell h1; (try simp only [szA] at hz_w1); (try have := wz0 w w1); (try have := wz1 w w1); (try have := wz2 w w1); (try have := wz3 w w1); (try have := wz4 w w1)
    go_wp2_with fail
    (try simp only [Exit.inBlock, Exit.then]); apply bodyPost_ret; (focus (simp only [results, Tryz.results49]; go_simp; try rfl)); rfl
    exact ⟨_, rfl, OwnBxs.nil _ _, ext_by⟩
def refM (s : Sky) (tick : Int) (sg : List Sight) : Nat → List Bx → List Bx
  | 0, l => l
  | k + 1, l => if 512 < (halfL l).length then l else refM s tick sg k (filtL s tick sg (halfL l))
def refErr (s : Sky) (tick : Int) (l : List Bx) (sg : List Sight) (n : Int) : Int := if fltErr s tick l sg ≠ 0 then fltErr s tick l sg else if n < 0 ∨ 20 < n then 2 else 0
set_option maxRecDepth 4000 in
set_option maxHeartbeats 1000000 in
theorem oRefine_yes (A1 : Option Addr) (n1 c1 : Nat) (home : Int) (A2 : Option Addr) (n2 c2 : Nat) (A3 : Option Addr) (n3 c3 : Nat) (s : Sky) (tick : Int) (A : Option Addr) (n c : Nat) (l : List Bx) (B : Option Addr) (m d : Nat) (r : List Sight) (N : Nat) (w : World) (hs : IsSky w A1 n1 home A2 n2 A3 n3 s) (hl : Bxs w A n l) (hr : Sights w B m r) (h0 : fltErr s tick l r = 0) (hN : N ≤ 20) :
    Calls Tryz.prog 51 #[.agg #[.slice A1 n1 c1, .int .i64 home, .slice A2 n2 c2, .slice A3 n3 c3], .int .i64 tick, .slice A n c, .slice B m d, .int .i64 (N : Int)] w fun e w' => ∃ v, e = .returned (.tuple #[v, .int .i64 0]) ∧ OwnBxs w.heap.size w' v (refM s tick r N l) ∧ Ext w w' := by
  have h512 : l.length ≤ 512 := by
    unfold fltErr at h0
    split at h0
    · contradiction
    · split at h0
      · cases h0
      · split at h0
        · contradiction
        · next h => 
          unfold setErr at h
          split at h
          · exact absurd (by decide) h
          · omega
  have hln := hl.len
  have HQ := Lib.hid fun W (hW : Ext w W) => oFilter_c A1 n1 c1 home A2 n2 c2 A3 n3 c3 s tick A n c l B m d r W (hs.ext hW) (Bxs.ext hW hl) (Sights.ext hW hr)
  rw [h0] at HQ
  have HC := Lib.hid fun W (hW : Ext w W) => CloneBox_c A n c l W (Bxs.ext hW hl) (by omega)
  have HH := Lib.hid fun A' (k c' : Nat) l' W (h : Bxs W A' k l') (hk : k ≤ 2000) => oHalves_c A' k c' l' W h hk
  have HF := Lib.hid fun A' (k c' : Nat) l' W (hW : Ext w W) (h : Bxs W A' k l') (hk : k ≤ 2000) => oFilterL_c A1 n1 c1 home A2 n2 c2 A3 n3 c3 s tick A' k c' l' B m d r W (hs.ext hW) h (Sights.ext hW hr) hk
  obtain ⟨T, hT⟩ : ∃ T, refM s tick r N l = T := ⟨_, rfl⟩
  rw [hT]
  have HT := Lib.hid hT
  clear hT h0 hs hl hr hln
  go_enter Tryz.func51, Tryz.ntmps51
  go_wp2_with fail
  refine (HQ.out _ ext_by).mono ?_
  rintro e w1 ⟨v1, rfl, _, h1⟩
  have B5 : Blk w1 w.heap.size 53 #[.slice A1 n1 c1, .int .i64 home, .slice A2 n2 c2, .slice A3 n3 c3] := (Blk.new w _ _).ext h1
  have E1 : Ext w w1 := (Ext.alloc0 _ _).trans h1
  clear h1 HQ
  go_wp2_with fail
  refine (HC.out _ E1).mono ?_
  rintro e w2 ⟨v2, rfl, ho2, h2⟩
  replace B5 := B5.ext h2
  have hz1 := E1.size
  have HO2 := Lib.hid (ho2.mono (base' := w.heap.size) (by omega))
  have E2 := E1.trans h2
  clear h2 ho2 HC E1 hz1
  go_wp2_with fail
  go_loopw [14, 36] (fun o i wr => ∃ (k : Nat) (l' : List Bx), k ≤ N ∧ i = .int .i64 k ∧ Hid (OwnBxs w.heap.size wr o l') ∧ l'.length ≤ 512 ∧ Hid (refM s tick r (N - k) l' = T) ∧ Hid (Blk wr w.heap.size 53 #[.slice A1 n1 c1, .int .i64 home, .slice A2 n2 c2, .slice A3 n3 c3]) ∧ Ext w wr) (fun _ i _ => N - (intOf i).toNat)
  case atStart => exact ⟨0, l, Nat.zero_le _, rfl, HO2, h512, HT, B5, E2⟩
  case round =>
    clear HO2 B5 E2 HT
    obtain ⟨k, l', hk, rfl, HO, hl', HI, B5, E⟩ := hrel
    by_cases hlt : k < N
    · obtain ⟨A', c', rfl, hs', _⟩ := HO.out.cap
      have HS' := Lib.hid hs'
      clear hs'
      have hi := HI.out
      rw [show N - k = N - (k + 1) + 1 by omega, refM] at hi
      have hll := half_len l'
      go_wp2_with fail
      refine (HH.out A' l'.length c' l' _ HS'.out (by omega)).mono ?_
      rintro e w3 ⟨v3, rfl, ho3, h3⟩
      have hz := E.size
      obtain ⟨A3', c3', rfl, hs3, _⟩ := ho3.cap
      have HS3 := Lib.hid hs3
      have HO3 := Lib.hid (OwnBxs.ext HO.out h3)
      have B3 := B5.out.ext h3
      have E3 := E.trans h3
      clear hs3 ho3 h3 HO
      generalize halfL l' = L at *
      obtain ⟨q, hq⟩ : ∃ q, q = L.length := ⟨_, rfl⟩
      rw [← hq] at HS3 hll hi ⊢
      have c_B3 := B3.cell; have f_B3 := B3.frozen; have l_B3 := B3.lt
      by_cases h5 : 512 < q
      · rw [if_pos h5] at hi
        have Hi := Lib.hid hi
        clear hi HI hq
        go_wp2_with fail
        (try simp only [Exit.inBlock, Exit.then]); apply bodyPost_ret; (focus (simp only [results, Tryz.results51]; go_simp; try rfl)); rfl
        exact ⟨_, rfl, by rw [← Hi.out]; exact HO3.out, E3⟩
      · rw [if_neg h5] at hi
        have Hi := Lib.hid hi
        have hfl : (filtL s tick r L).length ≤ q := by rw [hq]; exact List.length_filter_le _ _
        clear hi HI hq
        go_wp2_with fail
        refine (HF.out A3' q c3' L _ E3 HS3.out (by omega)).mono ?_
        rintro e w4 ⟨v4, rfl, ho4, h4⟩
        have hz3 := E3.size
        have HO4 := Lib.hid (ho4.mono (base' := w.heap.size) (by omega))
        have B4 := Lib.hid (B3.ext h4)
        have E4 := E3.trans h4
        clear c_B3 f_B3 l_B3
        clear ho4 h4 B3
        go_wp2_with fail
        go_roundw
        case rel => exact ⟨k + 1, _, by omega, by go_num, HO4, by omega, Hi, B4, E4⟩
        case measure => simp [intOf]; omega
    · have hkn : k = N := by omega
      have hi := HI.out
      rw [hkn, Nat.sub_self, refM] at hi
      have Hi := Lib.hid hi
      clear hi HI
      go_wp2_with fail
      (try simp only [Exit.inBlock, Exit.then]); apply bodyPost_ret; (focus (simp only [results, Tryz.results51]; go_simp; try rfl)); rfl
      exact ⟨_, rfl, by rw [← Hi.out]; exact HO.out, E⟩
set_option maxRecDepth 4000 in
set_option maxHeartbeats 1000000 in
theorem oRefine_no (A1 : Option Addr) (n1 c1 : Nat) (home : Int) (A2 : Option Addr) (n2 c2 : Nat) (A3 : Option Addr) (n3 c3 : Nat) (s : Sky) (tick : Int) (A : Option Addr) (n c : Nat) (l : List Bx) (B : Option Addr) (m d : Nat) (r : List Sight) (N : Int) (w : World) (hs : IsSky w A1 n1 home A2 n2 A3 n3 s) (hl : Bxs w A n l) (hr : Sights w B m r) (h0 : refErr s tick l r N ≠ 0) :
    Calls Tryz.prog 51 #[.agg #[.slice A1 n1 c1, .int .i64 home, .slice A2 n2 c2, .slice A3 n3 c3], .int .i64 tick, .slice A n c, .slice B m d, .int .i64 N] w fun e w' => e = .returned (.tuple #[.slice none 0 0, .int .i64 (refErr s tick l r N)]) ∧ Ext w w' := by
  have HQ := Lib.hid fun W (hW : Ext w W) => oFilter_c A1 n1 c1 home A2 n2 c2 A3 n3 c3 s tick A n c l B m d r W (hs.ext hW) (Bxs.ext hW hl) (Sights.ext hW hr)
  unfold refErr at h0 ⊢
  generalize fltErr s tick l r = E at *
  clear hs hl hr
  by_cases h1 : E = 0
  · subst h1
    rw [if_neg (by simp)] at h0 ⊢
    have h2 : N < 0 ∨ 20 < N := by
      refine Classical.byContradiction fun h => h0 ?_
      rw [if_neg h]
    rw [if_pos h2]
    clear h0
    rcases h2 with h2 | h2
    · go_enter Tryz.func51, Tryz.ntmps51
      go_wp2_with fail
      refine (HQ.out _ ext_by).mono ?_
      rintro e w1 ⟨v1, rfl, _, h1⟩
      obtain ⟨hc_w1, hf_w1, hz_w1⟩ := bcell h1; (try simp only [szA] at hz_w1); (try have := wz0 w w1); (try have := wz1 w w1); (try have := wz2 w w1); (try have := wz3 w w1); (try have := wz4 w w1)
      go_wp2_with fail
      (try simp only [Exit.inBlock, Exit.then]); apply bodyPost_ret; (focus (simp only [results, Tryz.results51]; go_simp; try rfl)); rfl
      exact ⟨rfl, ext_by⟩
    · have h3 : ¬ N < 0 := by omega
      go_enter Tryz.func51, Tryz.ntmps51
      go_wp2_with fail
      refine (HQ.out _ ext_by).mono ?_
      rintro e w1 ⟨v1, rfl, _, h1⟩
      obtain ⟨hc_w1, hf_w1, hz_w1⟩ := bcell h1; (try simp only [szA] at hz_w1); (try have := wz0 w w1); (try have := wz1 w w1); (try have := wz2 w w1); (try have := wz3 w w1); (try have := wz4 w w1)
      go_wp2_with fail
      (try simp only [Exit.inBlock, Exit.then]); apply bodyPost_ret; (focus (simp only [results, Tryz.results51]; go_simp; try rfl)); rfl
      exact ⟨rfl, ext_by⟩
  · rw [if_pos h1]
    clear h0
    go_enter Tryz.func51, Tryz.ntmps51
    go_wp2_with fail
    refine (HQ.out _ ext_by).mono ?_
    rintro e w1 ⟨v1, rfl, _, h2⟩
    obtain ⟨hc_w1, hf_w1, hz_w1⟩ := bcell h2; (try simp only [szA] at hz_w1); (try have := wz0 w w1); (try have := wz1 w w1); (try have := wz2 w w1); (try have := wz3 w w1); (try have := wz4 w w1)
    go_wp2_with fail
    (try simp only [Exit.inBlock, Exit.then]); apply bodyPost_ret; (focus (simp only [results, Tryz.results51]; go_simp; try rfl)); rfl
    exact ⟨rfl, ext_by⟩
def refL (s : Sky) (tick : Int) (l : List Bx) (sg : List Sight) (n : Int) : List Bx := if refErr s tick l sg n = 0 then refM s tick sg n.toNat l else []
theorem oRefine_c (A1 : Option Addr) (n1 c1 : Nat) (home : Int) (A2 : Option Addr) (n2 c2 : Nat) (A3 : Option Addr) (n3 c3 : Nat) (s : Sky) (tick : Int) (A : Option Addr) (n c : Nat) (l : List Bx) (B : Option Addr) (m d : Nat) (r : List Sight) (N : Int) (w : World) (hs : IsSky w A1 n1 home A2 n2 A3 n3 s) (hl : Bxs w A n l) (hr : Sights w B m r) :
    Calls Tryz.prog 51 #[.agg #[.slice A1 n1 c1, .int .i64 home, .slice A2 n2 c2, .slice A3 n3 c3], .int .i64 tick, .slice A n c, .slice B m d, .int .i64 N] w fun e w' => ∃ v, e = .returned (.tuple #[v, .int .i64 (refErr s tick l r N)]) ∧ OwnBxs w.heap.size w' v (refL s tick l r N) ∧ Ext w w' := by
  unfold refL
  by_cases h : refErr s tick l r N = 0
  · rw [if_pos h, h]
    have h1 : fltErr s tick l r = 0 ∧ 0 ≤ N ∧ N ≤ 20 := by
      unfold refErr at h
      by_cases h1 : fltErr s tick l r = 0
      · rw [if_neg (by simp [h1])] at h
        refine ⟨h1, ?_⟩
        refine Classical.byContradiction fun h2 => ?_
        rw [if_pos (by omega)] at h
        cases h
      · rw [if_pos h1] at h
        exact absurd h h1
    have := oRefine_yes A1 n1 c1 home A2 n2 c2 A3 n3 c3 s tick A n c l B m d r N.toNat w hs hl hr h1.1 (by omega)
    rw [show ((N.toNat : Nat) : Int) = N by omega] at this
    exact this
  · rw [if_neg h]
    refine (oRefine_no A1 n1 c1 home A2 n2 c2 A3 n3 c3 s tick A n c l B m d r N w hs hl hr h).mono ?_
    rintro e w' ⟨he, h1⟩
    exact ⟨_, he, OwnBxs.nil _ _, h1⟩
end Go.Proofs.YtfniicgoeljmdaaGreat

namespace Go.Proofs.YtfniicgoeljmdaaGreat
open Go.RowKit Go.Shelf
attribute [local go_sem] Oper.semAt_some

def updM (s : Sky) (d : Drf) (sg : List Sight) : Nat → Int → List Bx → Option (List Bx)
  | 0, _, L => some L
  | k + 1, t, L => if allB (stepB s.world.bodies s.world.home d t) L then updM s d sg k (t + 1) (filtL s (t + 1) sg (L.map (stepB s.world.bodies s.world.home d t))) else none
def KpB (nb b : Nat) (W W' : World) : Prop := Below nb W W' ∧ ∀ g cs t k, g ≠ b → W.heap[g]? = some (.cells cs t k) → W'.heap[g]? = some (.cells cs t k)
theorem KpB.trans {nb b : Nat} {A B C : World} (h : KpB nb b A B) (k : KpB nb b B C) : KpB nb b A C := ⟨h.1.trans k.1, fun g cs t q hg hb => k.2 g cs t q hg (h.2 g cs t q hg hb)⟩
theorem KpB.put {nb b : Nat} {w : World} (hn : nb ≤ w.heap.size) (W : World) (l : Nat) (o o' : Obj) (hl : w.heap.size ≤ l) (h : W.heap[l]? = some o) (ho : o.isCells = false) (hw : o.isWalk = false) : KpB nb b W (W.putObj l o') := by
  refine ⟨belowK_b hn W l o o' hl h ho hw, fun g cs t q _ hb => ?_⟩
  have hne : g ≠ l := fun e => by
    rw [e, h] at hb
    injection hb with hb
    rw [hb] at ho
    cases ho
  exact (World.putObj_heap_other hne).trans hb
theorem KpB.blk {nb b : Nat} {W W' : World} (h : KpB nb b W W') {g : Nat} {t : TypeId} {cs : Array Value} (hg : g ≠ b) (hb : Blk W g t cs) : Blk W' g t cs := h.2 g cs t _ hg hb
theorem KpB.own {nb b base : Nat} {W W' : World} (h : KpB nb b W W') {v : Value} {L : List Bx} (hb : b < base) (ho : OwnBxs base W v L) : OwnBxs base W' v L := by
  refine ⟨ho.1, ?_⟩
  rcases ho.2 with hn | ⟨g, cap, cur, rfl, hbg, hg, rest⟩
  · exact .inl hn
  · exact .inr ⟨g, cap, cur, rfl, hbg, h.2 _ _ _ _ (by omega) hg, rest⟩
theorem own_from {B base : Nat} {W W' : World} {row : Option Nat} {v : Value} {L : List Bx} (ho : OwnBxs base W v L) (hgr : W.grownBy W' row) (hr : ∀ r, row = some r → B ≤ r ∧ ∃ o : Obj, W.heap[r]? = some o ∧ o.isCells = false) : OwnBxs base W' v L := by
  refine ⟨ho.1, ?_⟩
  rcases ho.2 with hn | ⟨g, cap, cur, rfl, hbg, hg, rest⟩
  · exact .inl hn
  · refine .inr ⟨g, cap, cur, rfl, hbg, (hgr.block g (Array.getElem?_eq_some_iff.1 hg).1 (fun e => ?_)).trans hg, rest⟩
    obtain ⟨_, o, ho, hc⟩ := hr g e.symm
    rw [hg] at ho
    injection ho with ho
    rw [← ho] at hc
    cases hc
structure UpV (T : Option (List Bx)) where
  A : Option Addr
  n : Nat
  c : Nat
  ok : Bool
  h : Hid (ok = false → T = none)
def updE {T : Option (List Bx)} (x : UpV T) : Array Value := #[.slice x.A x.n x.c, .bool x.ok]
def updS (bs : Nat) (T : Option (List Bx)) (xs : List (UpV T)) (W : World) : Prop :=
  ∃ pre x, xs = pre ++ [x] ∧ ((x.ok = true ∧ ∃ L, T = some L ∧ OwnBxs bs W (.slice x.A x.n x.c) L) ∨ x.ok = false)
theorem updS_from (B bs : Nat) (T : Option (List Bx)) : OwnFrom B (updS bs T) := by
  rintro xs W W' row ⟨pre, x, rfl, h⟩ hgr hr
  refine ⟨pre, x, rfl, ?_⟩
  rcases h with ⟨h1, L, h2, h3⟩ | h
  · exact .inl ⟨h1, L, h2, own_from h3 hgr hr⟩
  · exact .inr h
theorem filt_ok {s : Sky} {t : Int} {sg : List Sight} {L : List Bx} (h : ∀ b ∈ L, bxErr b = 0) : ∀ b ∈ filtL s t sg L, bxErr b = 0 := fun b hb => h b (List.mem_filter.1 hb).1
theorem filt_len (s : Sky) (t : Int) (sg : List Sight) (L : List Bx) : (filtL s t sg L).length ≤ L.length := List.length_filter_le _ _
set_option maxHeartbeats 2000000 in
theorem oUpdates_c (A1 : Option Addr) (n1 c1 : Nat) (home : Int) (A2 : Option Addr) (n2 c2 : Nat) (A3 : Option Addr) (n3 c3 : Nat) (ll lh hl hh g : Int) (tick : Int) (A : Option Addr) (n c : Nat) (ticks : Int) (B : Option Addr) (m e : Nat) (w : World) :
    Calls Tryz.prog 111 #[.agg #[.slice A1 n1 c1, .int .i64 home, .slice A2 n2 c2, .slice A3 n3 c3], .agg #[.int .i64 ll, .int .i64 lh, .int .i64 hl, .int .i64 hh, .int .i64 g], .int .i64 tick, .slice A n c, .int .i64 ticks, .slice B m e] w fun e' w' => ∃ b, b = w.heap.size ∧ e' = .returned (.func (.func 145) #[] #[.pointer (some ⟨b, 0, none⟩), .pointer (some ⟨b + 1 + 1, 0, none⟩), .pointer (some ⟨b + 1 + 1 + 1, 0, none⟩), .pointer (some ⟨b + 1 + 1 + 1 + 1 + 1, 0, none⟩), .pointer (some ⟨b + 1 + 1 + 1 + 1, 0, none⟩), .pointer (some ⟨b + 1, 0, none⟩)]) ∧ Ext w w' ∧
      Blk w' b 53 #[.slice A1 n1 c1, .int .i64 home, .slice A2 n2 c2, .slice A3 n3 c3] ∧ Blk w' (b + 1) 28 #[.int .i64 ll, .int .i64 lh, .int .i64 hl, .int .i64 hh, .int .i64 g] ∧ Blk w' (b + 1 + 1) 2 #[.int .i64 tick] ∧ Blk w' (b + 1 + 1 + 1) 39 #[.slice A n c] ∧ Blk w' (b + 1 + 1 + 1 + 1) 3 #[.int .i64 ticks] ∧ Blk w' (b + 1 + 1 + 1 + 1 + 1) 70 #[.slice B m e] := by
  go_enter Tryz.func111, Tryz.ntmps111
  go_wp2_with fail
  go_ret
  refine ⟨_, rfl, rfl, by exact ext_by, ?_, ?_, ?_, ?_, ?_, ?_⟩
  · exact ((((((Blk.newAt rfl).alloc _).alloc _).alloc _).alloc _).alloc _)
  · exact (((((Blk.newAt (by simp)).alloc _).alloc _).alloc _).alloc _)
  · exact ((((Blk.newAt (by simp)).alloc _).alloc _).alloc _)
  · exact (((Blk.newAt (by simp)).alloc _).alloc _)
  · exact ((Blk.newAt (by simp)).alloc _)
  · exact Blk.newAt (by simp)
set_option maxRecDepth 100000 in
set_option maxHeartbeats 4000000 in
theorem oUpd_iter (g1 g2 g3 g4 g5 g6 b18 : Nat) (A1 : Option Addr) (n1 c1 : Nat) (home : Int) (A2 : Option Addr) (n2 c2 : Nat) (A3 : Option Addr) (n3 c3 : Nat) (s : Sky) (d : Drf) (tick : Int) (A : Option Addr) (n c : Nat) (L : List Bx) (B : Option Addr) (m e : Nat) (sg : List Sight) (N : Nat) (w0 w : World) (hE : Ext w0 w) (hs : IsSky w0 A1 n1 home A2 n2 A3 n3 s) (hl : Bxs w0 A n L) (hr : Sights w0 B m sg)
    (h1 : wdErr s.world.bodies s.world.home d = 0) (_ : N ≤ 400) (ht : 0 ≤ tick ∧ tick ≤ 1073741824 - (N : Int)) (hL : L.length ≤ 512) (hv : ∀ b ∈ L, bxErr b = 0)
    (hB1 : Blk w g1 53 #[.slice A1 n1 c1, .int .i64 home, .slice A2 n2 c2, .slice A3 n3 c3]) (hB2 : Blk w g2 2 #[.int .i64 tick]) (hB3 : Blk w g3 39 #[.slice A n c]) (hB4 : Blk w g4 70 #[.slice B m e]) (hB5 : Blk w g5 3 #[.int .i64 (N : Int)]) (hB6 : Blk w g6 28 #[.int .i64 d.light.lo, .int .i64 d.light.hi, .int .i64 d.heat.lo, .int .i64 d.heat.hi, .int .i64 d.gas])
    (hb : b18 < w.heap.size) (T : Option (List Bx)) (hT : updM s d sg N tick (filtL s tick sg L) = T) (hne : g1 ≠ b18 ∧ g2 ≠ b18 ∧ g3 ≠ b18 ∧ g4 ≠ b18 ∧ g5 ≠ b18 ∧ g6 ≠ b18) :
    IterT Tryz.prog 145 #[.pointer (some ⟨g1, 0, none⟩), .pointer (some ⟨g2, 0, none⟩), .pointer (some ⟨g3, 0, none⟩), .pointer (some ⟨g4, 0, none⟩), .pointer (some ⟨g5, 0, none⟩), .pointer (some ⟨g6, 0, none⟩)] updE (KpB w0.heap.size b18)
      (updS w.heap.size T) (fun _ _ => True) (N + 2) w := by
  intro q lr J Jx W hW hJ hJx hY h0
  obtain ⟨bs, hbs⟩ : ∃ b, b = w.heap.size := ⟨_, rfl⟩
  have hz := hW.size
  have hhome := hs.home
  have HF := Lib.hid fun (t : Int) A' (k c' : Nat) (L' : List Bx) V (hV : Ext w0 V) (h : Bxs V A' k L') (hk : k ≤ 2000) => oFilterL_c A1 n1 c1 home A2 n2 c2 A3 n3 c3 s t A' k c' L' B m e sg V (hs.ext hV) h (Sights.ext hV hr) hk
  have HA := Lib.hid fun (t : Int) (h2 : 0 ≤ t ∧ t ≤ 1073741824) A' (k c' : Nat) (L' : List Bx) V (hV : Ext w0 V) (h : Bxs V A' k L') (hk : k ≤ 2000) (hv : ∀ b ∈ L', bxErr b = 0) => oAll_c A1 n1 c1 s.world.home s.world.bodies d t A' k c' L' V (Bodies.ext hV hs.bodies) h1 h2 h hk hv
  rw [← hhome] at HA
  have HH := Lib.hid hhome
  have HT := Lib.hid hT
  rw [← hbs] at hb ⊢
  have hz2 : bs ≤ W.heap.size := by omega
  obtain ⟨n1', n2', n3', n4', n5', n6'⟩ := hne
  have HB1 := Lib.hid (hB1.ext hW)
  have HB2 := Lib.hid (hB2.ext hW)
  have HB3 := Lib.hid (hB3.ext hW)
  have HB4 := Lib.hid (hB4.ext hW)
  have HB5 := Lib.hid (hB5.ext hW)
  have HB6 := Lib.hid (hB6.ext hW)
  have HE := Lib.hid (hE.trans hW)
  have hn : n ≤ 2000 := by have := hl.len; omega
  have HL := Lib.hid fun V (hV : Ext w0 V) => Bxs.ext hV hl
  have hCl : (filtL s tick sg L).length ≤ 512 := Nat.le_trans (filt_len s tick sg L) hL
  have hCv := filt_ok (s := s) (t := tick) (sg := sg) hv
  have HCV := Lib.hid hCv
  have hY' : ∀ (pre : List (UpV T)) (x : UpV T) W1, J pre W1 → pre.length < N + 2 → YieldAt Fence.wide (q - 1) Tryz.prog lr #[.slice x.A x.n x.c, .bool x.ok] W1 fun e W' =>
      (e = .returned (.bool true) ∧ J (pre ++ [x]) W' ∧ KpB w0.heap.size b18 W1 W') ∨ (e = .returned (.bool false) ∧ Jx (pre ++ [x]) W') := fun pre x W1 h1 h2 => hY pre x W1 h1 h2
  have HY := Lib.hid hY'
  have HJ := Lib.hid hJ
  have H0 := Lib.hid h0
  obtain ⟨⟨ll, lh⟩, ⟨hl', hh⟩, g⟩ := d
  dsimp only at HA HB6
  clear hY hY' hs hl hr hB1 hB2 hB3 hB4 hB5 hB6 hW hE h1 hT hhome hbs hz hv hCv hJ h0 hL
  refine callsIn_of_wp Tryz.func145 rfl trivial ?_
  simp only [Tryz.ntmps145, List.size_toArray, List.length_cons, List.length_nil, Nat.reduceAdd, Nat.reduceSub, Array.replicate_succ, Array.replicate_zero, List.push_toArray, List.append_toArray, List.nil_append, List.cons_append]
  have c1' := HB1.out.cell
  have c2' := HB2.out.cell
  have c3' := HB3.out.cell
  have c4' := HB4.out.cell
  have l1' := HB1.out.lt
  have l2' := HB2.out.lt
  have l3' := HB3.out.lt
  have l4' := HB4.out.lt
  gi_wp2
  refine ⟨trivial, fun h => (by cases h), (callsIn_wide.2 (HF.out tick A n c L _ HE.out (HL.out _ HE.out) hn)).mono ?_⟩
  rintro e w1 ⟨v1, rfl, ho1, h1⟩
  have HJ1 := Lib.hid (HJ.out [] W w1 none H0.out (ext_grown h1) (by intro r hr; cases hr))
  have HO1 := Lib.hid (ho1.mono (base' := bs) hz2)
  replace HB1 := Lib.hid (HB1.out.ext h1)
  replace HB2 := Lib.hid (HB2.out.ext h1)
  replace HB4 := Lib.hid (HB4.out.ext h1)
  replace HB5 := Lib.hid (HB5.out.ext h1)
  replace HB6 := Lib.hid (HB6.out.ext h1)
  replace HE := Lib.hid (HE.out.trans h1)
  have hz1 : bs ≤ w1.heap.size := Nat.le_trans hz2 h1.size
  clear c1' c2' c3' c4' l1' l2' l3' l4' h1 HB3 ho1 HL hn H0
  generalize filtL s tick sg L = C0 at *
  gi_wp2
  gi_loopw [8, 9] (fun v i wr => ∃ (k : Nat) (C : List Bx) (pre : List (UpV T)), k ≤ N ∧ i = .int .i64 k ∧ Hid (pre.length = k) ∧ C.length ≤ 512 ∧ Hid (∀ b ∈ C, bxErr b = 0) ∧ Hid (updM s ⟨⟨ll, lh⟩, ⟨hl', hh⟩, g⟩ sg (N - k) (tick + k) C = T) ∧ Hid (OwnBxs bs wr v C) ∧ Hid (J pre wr) ∧ Hid (Ext w0 wr) ∧ bs ≤ wr.heap.size ∧ Hid (Blk wr g1 53 #[.slice A1 n1 c1, .int .i64 home, .slice A2 n2 c2, .slice A3 n3 c3]) ∧ Hid (Blk wr g2 2 #[.int .i64 tick]) ∧ Hid (Blk wr g4 70 #[.slice B m e]) ∧ Hid (Blk wr g5 3 #[.int .i64 (N : Int)]) ∧ Hid (Blk wr g6 28 #[.int .i64 ll, .int .i64 lh, .int .i64 hl', .int .i64 hh, .int .i64 g])) (fun _ i _ => N - (intOf i).toNat)
  case atStart => exact ⟨0, C0, [], Nat.zero_le _, rfl, rfl, hCl, HCV.out, Lib.hid (by simpa using HT.out), HO1.out, HJ1.out, HE.out, hz1, HB1.out, HB2.out, HB4.out, HB5.out, HB6.out⟩
  case round =>
    clear HJ1 HO1 HB1 HB2 HB4 HB5 HB6 HE hz1 hCl HCV HT
    obtain ⟨k, C, pre, hk, rfl, HP, hC, HCV, HT, HO, HJ1, HE, hz1, HB1, HB2, HB4, HB5, HB6⟩ := hrel
    obtain ⟨A', c', rfl, hs', _⟩ := HO.out.cap
    obtain ⟨fn, tmps, assign, body, hy, hR⟩ := HY.out pre ⟨A', C.length, c', true, Lib.hid fun h => (by cases h)⟩ wr HJ1.out (by have := HP.out; omega)
    dsimp only at hy
    have HS' := Lib.hid hs'
    clear hs'
    have c5' := HB5.out.cell
    have l5' := HB5.out.lt
    gi_wp2
    refine ⟨fun h => (by cases h), hR.mono ?_⟩
    rintro e9 W3 (⟨rfl, hJ3, hk3⟩ | ⟨rfl, hJx3⟩)
    · have HO3 := Lib.hid (KpB.own hk3 hb HO.out)
      have HJ3 := Lib.hid hJ3
      have HE3 : Hid (Ext w0 W3) := Lib.hid (Below.trans HE.out hk3.1)
      have hz3 : bs ≤ W3.heap.size := Nat.le_trans hz1 hk3.1.size
      replace HB1 := Lib.hid (hk3.blk n1' HB1.out)
      replace HB2 := Lib.hid (hk3.blk n2' HB2.out)
      replace HB4 := Lib.hid (hk3.blk n4' HB4.out)
      replace HB5 := Lib.hid (hk3.blk n5' HB5.out)
      replace HB6 := Lib.hid (hk3.blk n6' HB6.out)
      clear c5' l5' hk3 hJ3 HO HJ1 HE hz1 HS' hy hR
      have c1' := HB1.out.cell
      have c2' := HB2.out.cell
      have c4' := HB4.out.cell
      have c5' := HB5.out.cell
      have c6' := HB6.out.cell
      have l1' := HB1.out.lt
      have l2' := HB2.out.lt
      have l4' := HB4.out.lt
      have l5' := HB5.out.lt
      have l6' := HB6.out.lt
      by_cases hlt : k < N
      · obtain ⟨A2', c2'', hA2, hs2, _⟩ := HO3.out.cap
        injection hA2 with e1 e2 e3
        subst e1 e3
        clear e2
        have HS2 := Lib.hid hs2
        clear hs2
        have ht' := HT.out
        rw [show N - k = N - (k + 1) + 1 by omega, updM, ← HH.out] at ht'
        gi_wp2
        refine ⟨trivial, fun h => (by cases h), (callsIn_wide.2 (HA.out (tick + (k : Int)) (by omega) A' C.length c' C _ HE3.out HS2.out (by omega) HCV.out)).mono ?_⟩
        rintro e8 w4 ⟨v4, rfl, ho4, h4⟩
        have HJ4 := Lib.hid (HJ.out _ W3 w4 none HJ3.out (ext_grown h4) (by intro r hr; cases hr))
        have HE4 := Lib.hid (HE3.out.trans h4)
        have hz4 : bs ≤ w4.heap.size := Nat.le_trans hz3 h4.size
        replace HB1 := Lib.hid (HB1.out.ext h4)
        replace HB2 := Lib.hid (HB2.out.ext h4)
        replace HB4 := Lib.hid (HB4.out.ext h4)
        replace HB5 := Lib.hid (HB5.out.ext h4)
        replace HB6 := Lib.hid (HB6.out.ext h4)
        clear c1' c2' c4' c5' c6' l1' l2' l4' l5' l6' h4 HJ3 HE3 HO3 HS2
        have c1' := HB1.out.cell
        have c2' := HB2.out.cell
        have c4' := HB4.out.cell
        have l1' := HB1.out.lt
        have l2' := HB2.out.lt
        have l4' := HB4.out.lt
        cases hK : allB (stepB s.world.bodies home ⟨⟨ll, lh⟩, ⟨hl', hh⟩, g⟩ (tick + (k : Int))) C
        · rw [hK] at ht'
          have HTn : Hid (T = none) := Lib.hid (by simpa using ht'.symm)
          obtain ⟨fn, tmps, assign, body, hy, hR⟩ := HY.out (pre ++ [⟨A', C.length, c', true, Lib.hid fun h => (by cases h)⟩]) ⟨none, 0, 0, false, Lib.hid fun _ => HTn.out⟩ w4 HJ4.out (by rw [List.length_append, List.length_singleton]; have := HP.out; omega)
          dsimp only at hy
          clear ht' ho4
          gi_wp2
          refine ⟨fun h => (by cases h), hR.mono ?_⟩
          rintro e7 W5 (⟨rfl, hJ5, hk5⟩ | ⟨rfl, hJx5⟩)
          · gi_wp2
            refine bodyPost_ret (results_none rfl _ _ _) rfl ?_
            exact ⟨⟨_, rfl⟩, .inl ⟨_, ⟨_, _, rfl, .inr rfl⟩, hJ5⟩⟩
          · gi_wp2
            refine bodyPost_ret (results_none rfl _ _ _) rfl ?_
            exact ⟨⟨_, rfl⟩, .inr ⟨_, trivial, hJx5⟩⟩
        · rw [hK] at ht' ho4
          simp only [if_true] at ht' ho4
          have hv4 := all_ok hK
          have hlC : (C.map (stepB s.world.bodies home ⟨⟨ll, lh⟩, ⟨hl', hh⟩, g⟩ (tick + (k : Int)))).length ≤ 512 := by rw [List.length_map]; exact hC
          obtain ⟨A4, c4, rfl, hs4, _⟩ := ho4.cap
          have HS4 := Lib.hid hs4
          have Ht := Lib.hid ht'
          generalize C.map (stepB s.world.bodies home ⟨⟨ll, lh⟩, ⟨hl', hh⟩, g⟩ (tick + (k : Int))) = C4 at *
          have hl5 := Nat.le_trans (filt_len s (tick + k + 1) sg C4) hlC
          have HV5 := Lib.hid (filt_ok (s := s) (t := tick + k + 1) (sg := sg) hv4)
          clear ho4 hs4 ht' hv4 hK HCV
          gi_wp2
          refine ⟨trivial, fun h => (by cases h), (callsIn_wide.2 (HF.out (tick + (k : Int) + 1) A4 C4.length c4 C4 _ HE4.out HS4.out (by omega))).mono ?_⟩
          rintro e7 w5 ⟨v5, rfl, ho5, h5⟩
          have HO5 := Lib.hid (ho5.mono (base' := bs) hz4)
          have HJ5 := Lib.hid (HJ.out _ w4 w5 none HJ4.out (ext_grown h5) (by intro r hr; cases hr))
          replace HB1 := Lib.hid (HB1.out.ext h5)
          replace HB2 := Lib.hid (HB2.out.ext h5)
          replace HB4 := Lib.hid (HB4.out.ext h5)
          replace HB5 := Lib.hid (HB5.out.ext h5)
          replace HB6 := Lib.hid (HB6.out.ext h5)
          replace HE4 := Lib.hid (HE4.out.trans h5)
          replace hz4 : bs ≤ w5.heap.size := Nat.le_trans hz4 h5.size
          have Ht2 : Hid (updM s ⟨⟨ll, lh⟩, ⟨hl', hh⟩, g⟩ sg (N - (k + 1)) (tick + ((k + 1 : Nat) : Int)) (filtL s (tick + k + 1) sg C4) = T) := by
            rw [show tick + ((k + 1 : Nat) : Int) = tick + k + 1 by omega]
            exact Ht
          generalize filtL s (tick + k + 1) sg C4 = C5 at *
          clear c1' c2' c4' l1' l2' l4' h5 ho5 HJ4 Ht HS4
          gi_wp2
          go_roundw
          case rel => exact ⟨k + 1, C5, _, by omega, by go_num, Lib.hid (by rw [List.length_append, List.length_singleton, HP.out]), hl5, HV5, Ht2, HO5, HJ5, HE4, hz4, HB1, HB2, HB4, HB5, HB6⟩
          case measure => simp [intOf]; omega
      · have hkn : k = N := by omega
        have ht' := HT.out
        rw [hkn, Nat.sub_self, updM] at ht'
        gi_wp2
        go_end0
        exact ⟨⟨_, rfl⟩, .inl ⟨_, ⟨_, _, rfl, .inl ⟨rfl, C, ht'.symm, HO3.out⟩⟩, HJ3.out⟩⟩
    · gi_wp2
      go_end0
      exact ⟨⟨_, rfl⟩, .inr ⟨_, trivial, hJx3⟩⟩
end Go.Proofs.YtfniicgoeljmdaaGreat
