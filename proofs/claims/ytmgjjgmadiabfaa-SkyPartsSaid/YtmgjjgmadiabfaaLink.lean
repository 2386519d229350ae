/- Which guess links two tracklets: the program. No condition. -/
import Derived.Test.YtmgjjgmadiabfaaConcat
namespace Go.Proofs.Ytmgjjgmadiabfaa
open Go.RowKit

def linkFrom (F : St → Int) : List St → Nat → List Int → Int × List Int
  | [], _, acc => (-1, acc)
  | g :: r, k, acc => if F g < 0 then ((k : Int), []) else linkFrom F r (k + 1) (acc ++ [F g])
def linkErr (s : Sky) (a b : List Sight) (gs : List St) (t0 : Int) : Int := if trkErr s a ≠ 0 then trkErr s a else if trkErr s b ≠ 0 then trkErr s b else askErr gs t0
def linkR (s : Sky) (a b : List Sight) (gs : List St) (t0 : Int) : Int × List Int := if linkErr s a b gs t0 ≠ 0 then (0, []) else linkFrom (fun g => missFrom s g t0 (a ++ b) 0) gs 0 []
theorem linkR_no {s : Sky} {a b : List Sight} {gs : List St} {t0 : Int} (h : linkErr s a b gs t0 ≠ 0) : linkR s a b gs t0 = (0, []) := if_pos h
theorem linkR_yes {s : Sky} {a b : List Sight} {gs : List St} {t0 : Int} (h : linkErr s a b gs t0 = 0) : linkR s a b gs t0 = linkFrom (fun g => missFrom s g t0 (a ++ b) 0) gs 0 [] := if_neg (by simp [h])

set_option maxRecDepth 4000 in
set_option maxHeartbeats 2000000 in
theorem Link_c (A1 : Option Addr) (n1 c1 : Nat) (home : Int) (A2 : Option Addr) (n2 c2 : Nat) (A3 : Option Addr) (n3 c3 : Nat) (s : Sky) (A : Option Addr) (n c : Nat) (a : List Sight) (A' : Option Addr) (n' c' : Nat) (b : List Sight) (B : Option Addr) (m d : Nat) (gs : List St) (t0 : Int) (w : World) (hs : IsSky w A1 n1 home A2 n2 A3 n3 s) (ha : Sights w A n a) (hb : Sights w A' n' b) (hg : Sts w B m gs) :
    Calls Try.prog 51 #[.agg #[.slice A1 n1 c1, .int .i64 home, .slice A2 n2 c2, .slice A3 n3 c3], .slice A n c, .slice A' n' c', .slice B m d, .int .i64 t0] w (Ret3 w (linkR s a b gs t0).1 (linkR s a b gs t0).2 (linkErr s a b gs t0)) := by
  have HA := Lib.hid fun W (hW : Ext w W) => CheckTracklet_c A1 n1 c1 home A2 n2 c2 A3 n3 c3 s A n c a W (hs.ext hW) (Sights.ext hW ha)
  have HB := Lib.hid fun W (hW : Ext w W) => CheckTracklet_c A1 n1 c1 home A2 n2 c2 A3 n3 c3 s A' n' c' b W (hs.ext hW) (Sights.ext hW hb)
  have HG := Lib.hid fun W (hW : Ext w W) => checkGuesses_c B m d gs t0 W (Sts.ext hW hg)
  have i0 : ∀ W, (Instr.index 153 (.agg #[.slice A n c, .slice A' n' c']) (.int .i64 0)).run Try.prog W = .ok (.slice A n c) W := fun _ => by kernel_rfl
  have i1 : ∀ W, (Instr.index 153 (.agg #[.slice A n c, .slice A' n' c']) (.int .i64 1)).run Try.prog W = .ok (.slice A' n' c') W := fun _ => by kernel_rfl
  by_cases h1 : trkErr s a = 0
  · by_cases h2 : trkErr s b = 0
    · have hE : linkErr s a b gs t0 = askErr gs t0 := by rw [linkErr, if_neg (by simp [h1]), if_neg (by simp [h2])]
      rw [h1] at HA
      rw [h2] at HB
      by_cases h3 : askErr gs t0 = 0
      · rw [linkR_yes (hE.trans h3), hE, h3]
        rw [h3] at HG
        have hm := hg.le
        have hok : ∀ x ∈ a ++ b, sightErr2 s x = 0 := fun x hx => (List.mem_append.1 hx).elim (trk_ok h1 x) (trk_ok h2 x)
        have hla := trk_len h1
        have hlb := trk_len h2
        have hpos : 0 < a.length := by
          rcases Nat.eq_zero_or_pos a.length with h0 | h0
          · exfalso
            unfold trkErr at h1
            by_cases hk : skyErr s = 0
            · rw [if_neg (by simp [hk]), if_pos h0] at h1; cases h1
            · rw [if_pos hk] at h1; exact hk h1
          · exact h0
        obtain ⟨hm64, ht, hgo⟩ := ask_ok h3
        have HC := Lib.hid fun A0 W (hW : Ext w W) h => Concat_c A0 2 2 [a, b] W h (by simp; omega) (by simp; omega)
        have hfl : [a, b].flatten = a ++ b := by simp
        rw [hfl] at HC
        have HTr := Lib.hid fun A0 W (hW : Ext w W) (h : ∃ g t, A0 = some ⟨g, 0, none⟩ ∧ Blk W g t #[.slice A n c, .slice A' n' c']) => show Trks W A0 2 [a, b] from by
          obtain ⟨g, t, rfl, hB⟩ := h
          exact ⟨rfl, by decide, .inr ⟨g, 0, rfl, two (P := fun x k => trkAt W x g (0 + k * 1)) ⟨A, n, c, hB.cell 0, Sights.ext hW ha⟩ ⟨A', n', c', hB.cell 1, Sights.ext hW hb⟩⟩⟩
        have HF := Lib.hid fun (g : St) (hgm : g ∈ gs) A0 c0 W (hW : Ext w W) h => misses_c A1 n1 c1 home A2 n2 c2 A3 n3 c3 s g.x g.y g.u g.v t0 A0 (a ++ b).length c0 (a ++ b) W (hs.ext hW) h hok (hgo g hgm) ht
        have Hml := Lib.hid hg.len
        have HGS := Lib.hid fun W (hW : Ext w W) => Sts.ext hW hg
        have hm64' : m ≤ 64 := by have := hg.len; omega
        have hlen : (a ++ b).length ≤ 128 := by rw [List.length_append]; omega
        obtain ⟨ii, hii, hi0, hi1, hi2⟩ := info_parts info_int
        generalize hRR : linkFrom (fun g => missFrom s g t0 (a ++ b) 0) gs 0 [] = RR
        have HRR := Lib.hid hRR
        obtain ⟨R1, R2⟩ := RR
        dsimp only
        generalize a ++ b = ab at *
        clear hE h1 h2 h3 hok hgo ht hs hg hm64 hRR hfl ha hb
        go_enter Try.func51, Try.ntmps51
        go_wp2_with fail
        go_loopw [25] (fun i wr => ∃ k : Nat, k ≤ 2 ∧ i = .int .i64 k ∧ Ext (w.alloc (.cells #[.slice A1 n1 c1, .int .i64 home, .slice A2 n2 c2, .slice A3 n3 c3] 28)) wr) (fun i _ => 2 - (intOf i).toNat)
        case atStart => exact ⟨0, Nat.zero_le _, rfl, Ext.refl _⟩
        case round =>
          obtain ⟨k, hk, rfl, hb⟩ := hrel
          obtain ⟨hcb, hfb, hzb⟩ := bcell hb
          simp only [World.size_alloc] at hzb
          have hwr0 : w.heap.size < wr.heap.size := by omega
          by_cases hk0 : k = 0
          · subst hk0
            go_wp2_with fail
            refine (HA.out _ (by (repeat' (first | exact Ext.refl _ | assumption | apply Ext.alloc | apply Ext.drew | refine Ext.set ?_ (by dsimp only; omega) _ | refine Ext.trans ?_ (by assumption))))).mono ?_
            rintro e w1 ⟨rfl, h1⟩; obtain ⟨hc_w1, hf_w1, hz_w1⟩ := bcell h1; (repeat (first | rw [World.size_alloc] at hz_w1 | rw [World.size_drew] at hz_w1 | rw [World.size_setCell] at hz_w1))
            go_wp2_with fail
            go_roundw
            case rel => exact ⟨1, by omega, rfl, by (repeat' (first | exact Ext.refl _ | assumption | apply Ext.alloc | apply Ext.drew | refine Ext.set ?_ (by dsimp only; omega) _ | refine Ext.trans ?_ (by assumption)))⟩
            case measure => simp [intOf]
          · by_cases hk1 : k = 1
            · subst hk1
              go_wp2_with fail
              refine (HB.out _ (by (repeat' (first | exact Ext.refl _ | assumption | apply Ext.alloc | apply Ext.drew | refine Ext.set ?_ (by dsimp only; omega) _ | refine Ext.trans ?_ (by assumption))))).mono ?_
              rintro e w1 ⟨rfl, h1⟩; obtain ⟨hc_w1, hf_w1, hz_w1⟩ := bcell h1; (repeat (first | rw [World.size_alloc] at hz_w1 | rw [World.size_drew] at hz_w1 | rw [World.size_setCell] at hz_w1))
              go_wp2_with fail
              go_roundw
              case rel => exact ⟨2, by omega, rfl, by (repeat' (first | exact Ext.refl _ | assumption | apply Ext.alloc | apply Ext.drew | refine Ext.set ?_ (by dsimp only; omega) _ | refine Ext.trans ?_ (by assumption)))⟩
              case measure => simp [intOf]
            · obtain rfl : k = 2 := by omega
              clear hk0 hk1
              go_wp2_with fail
              refine (HG.out _ (by (repeat' (first | exact Ext.refl _ | assumption | apply Ext.alloc | apply Ext.drew | refine Ext.set ?_ (by dsimp only; omega) _ | refine Ext.trans ?_ (by assumption))))).mono ?_
              rintro e w1 ⟨rfl, h1⟩; obtain ⟨hc_w1, hf_w1, hz_w1⟩ := bcell h1; (repeat (first | rw [World.size_alloc] at hz_w1 | rw [World.size_drew] at hz_w1 | rw [World.size_setCell] at hz_w1)); have : w.heap.size < w1.heap.size := (by omega)
              have e1 : Ext w w1 := by (repeat' (first | exact Ext.refl _ | assumption | apply Ext.alloc | apply Ext.drew | refine Ext.set ?_ (by dsimp only; omega) _ | refine Ext.trans ?_ (by assumption)))
              go_wp2_with fail
              refine (HC.out _ _ (by (repeat' (first | exact Ext.refl _ | assumption | apply Ext.alloc | apply Ext.drew | refine Ext.set ?_ (by dsimp only; omega) _ | refine Ext.trans ?_ (by assumption)))) (HTr.out _ _ (by (repeat' (first | exact Ext.refl _ | assumption | apply Ext.alloc | apply Ext.drew | refine Ext.set ?_ (by dsimp only; omega) _ | refine Ext.trans ?_ (by assumption)))) ⟨_, _, rfl, Blk.newAt rfl⟩)).mono ?_
              rintro e w2 ⟨Ac, cc, rfl, hS, h2⟩
              obtain ⟨hc2, hf2, hz2⟩ := bcell h2
              rw [World.size_alloc] at hz2
              have hws : w.heap.size < w2.heap.size := by omega
              have HS := Lib.hid hS
              have e2 : Ext w w2 := by (repeat' (first | exact Ext.refl _ | assumption | apply Ext.alloc | apply Ext.drew | refine Ext.set ?_ (by dsimp only; omega) _ | refine Ext.trans ?_ (by assumption)))
              clear hS
              obtain ⟨wo, rfl⟩ : ∃ wo : World, wo = wr := ⟨_, rfl⟩
              go_wp2_with fail
              go_loopw [18, 47] (fun v i wr => ∃ (k : Nat) (acc : List Int), k ≤ m ∧ i = .int .i64 k ∧ acc.length ≤ k ∧ Hid (linkFrom (fun g => missFrom s g t0 ab 0) (gs.drop k) k acc = (R1, R2)) ∧ Hid (OwnInts w2.heap.size wr v acc) ∧ Ext w2 wr) (fun _ i _ => m - (intOf i).toNat)
              case atStart => exact ⟨0, [], Nat.zero_le _, rfl, Nat.le_refl _, HRR.out, OwnInts.nil _ _, Ext.refl _⟩
              case round =>
                obtain ⟨k, acc, hk, rfl, hak, HI, HO, hb3⟩ := hrel
                obtain ⟨hcb3, hfb3, hzb3⟩ := bcell hb3
                have hwr3 : w.heap.size < wr.heap.size := by omega
                by_cases hlt : k < m
                · obtain ⟨q, off, g, rfl, HD, hgm, hgc⟩ := (HGS.out _ (e2.trans hb3)).one hlt
                  obtain ⟨hg0, hg1, hg2, hg3⟩ := hgc
                  have hq := World.block_lt_of_cell? wr _ hg0
                  dsimp only at hq
                  have hi := HI.out; rw [HD.out, linkFrom] at hi
                  have hcx := HF.out g hgm
                  have hee : missFrom s ⟨g.x, g.y, g.u, g.v⟩ t0 ab 0 = missFrom s g t0 ab 0 := rfl
                  rw [hee] at hcx
                  generalize missFrom s g t0 ab 0 = M at hi hcx
                  have HFx := Lib.hid hcx; clear hcx hee
                  have Hi := Lib.hid hi; clear hi
                  go_wp2_with fail
                  refine (HFx.out _ _ _ (by (repeat' (first | exact Ext.refl _ | assumption | apply Ext.alloc | apply Ext.drew | refine Ext.set ?_ (by dsimp only; omega) _ | refine Ext.trans ?_ (by assumption)))) (Sights.ext (by (repeat' (first | exact Ext.refl _ | assumption | apply Ext.alloc | apply Ext.drew | refine Ext.set ?_ (by dsimp only; omega) _ | refine Ext.trans ?_ (by assumption)))) HS.out)).mono ?_
                  rintro e w4 ⟨rfl, h4⟩; obtain ⟨hc_w4, hf_w4, hz_w4⟩ := bcell h4; (repeat (first | rw [World.size_alloc] at hz_w4 | rw [World.size_drew] at hz_w4 | rw [World.size_setCell] at hz_w4))
                  have hw4 : wr.heap.size < w4.heap.size := by omega
                  have hws4 : w.heap.size < w4.heap.size := by omega
                  by_cases hM : M < 0
                  · go_wp2_with fail
                    go_ret3
                    have hi := Hi.out
                    rw [if_pos hM] at hi
                    injection hi with q1 q2
                    subst q1 q2
                    exact Ret3.mk rfl (by (repeat' (first | exact Ext.refl _ | assumption | apply Ext.alloc | apply Ext.drew | refine Ext.set ?_ (by dsimp only; omega) _ | refine Ext.trans ?_ (by assumption))))
                  · have hM' : 0 ≤ M := by omega
                    have HO4 := Lib.hid (HO.out.ext (show Ext wr w4 by (repeat' (first | exact Ext.refl _ | assumption | apply Ext.alloc | apply Ext.drew | refine Ext.set ?_ (by dsimp only; omega) _ | refine Ext.trans ?_ (by assumption)))))
                    go_wp2_with (at_builtin; go_loud (refine wpList_append_sl rfl (.tmp 61) (.tmp 63) 38 rfl w2.heap.size 3 ii _ 1 8 Try.underlying38 hii hi0 hi1 hi2 rfl (by decide) _ acc.length (acc.flatMap intC) rfl (own_ext_keep HO4.out (by (repeat' (first | exact Ext.refl _ | assumption | apply Ext.alloc | apply Ext.drew | refine Ext.set ?_ (by dsimp only; omega) _ | refine Ext.trans ?_ (by assumption))))) (some ⟨w4.heap.size, 0, none⟩) 1 1 [.int .i64 M] rfl rfl (.inr ⟨_, rfl, new_cells (by simp)⟩) (by intro u hu; simp at hu; rcases hu with rfl; rfl) (by unfold maxLen; omega) (by omega) (by simp; omega) ?_))
                    intro v5 w5 ho5 hg5 hn5
                    have e5 : Ext w2 w5 := own_ext (by (repeat' (first | exact Ext.refl _ | assumption | apply Ext.alloc | apply Ext.drew | refine Ext.set ?_ (by dsimp only; omega) _ | refine Ext.trans ?_ (by assumption)))) (own_ext_keep HO4.out (by (repeat' (first | exact Ext.refl _ | assumption | apply Ext.alloc | apply Ext.drew | refine Ext.set ?_ (by dsimp only; omega) _ | refine Ext.trans ?_ (by assumption))))) hg5 (Nat.le_refl _)
                    have HO5 := Lib.hid (OwnInts.ofSnoc rfl ho5)
                    clear ho5 hg5 hn5
                    go_wp2_with fail
                    go_roundw
                    case rel => exact ⟨k + 1, acc ++ [M], by omega, by go_num, by simp; omega, by have hi := Hi.out; rw [if_neg (by omega)] at hi; exact hi, HO5, e5⟩
                    case measure => simp [intOf]; omega
                · have : k = m := by omega
                  subst this
                  have hi := HI.out
                  rw [Hml.out, List.drop_length, linkFrom] at hi
                  obtain ⟨A5, c5, hv, hL⟩ := HO.out.sl
                  have HI2 := Lib.hid hi
                  have HL := Lib.hid hL
                  subst hv
                  clear hi HI hL HO
                  go_wp2_with fail
                  go_ret3
                  have hi := HI2.out
                  injection hi with q1 q2
                  subst q1 q2
                  exact ⟨A5, c5, rfl, HL.out, by (repeat' (first | exact Ext.refl _ | assumption | apply Ext.alloc | apply Ext.drew | refine Ext.set ?_ (by dsimp only; omega) _ | refine Ext.trans ?_ (by assumption)))⟩
      · have h3' : (askErr gs t0 != 0) = true := by simpa using h3
        rw [linkR_no (by rw [hE]; exact h3), hE]
        generalize askErr gs t0 = E at *
        clear hE h1 h2 hs hg h3 ha hb
        go_enter Try.func51, Try.ntmps51
        go_wp2_with fail
        go_loopw [25] (fun i wr => ∃ k : Nat, k ≤ 2 ∧ i = .int .i64 k ∧ Ext (w.alloc (.cells #[.slice A1 n1 c1, .int .i64 home, .slice A2 n2 c2, .slice A3 n3 c3] 28)) wr) (fun i _ => 2 - (intOf i).toNat)
        case atStart => exact ⟨0, Nat.zero_le _, rfl, Ext.refl _⟩
        case round =>
          obtain ⟨k, hk, rfl, hb⟩ := hrel
          obtain ⟨hcb, hfb, hzb⟩ := bcell hb
          simp only [World.size_alloc] at hzb
          have hwr0 : w.heap.size < wr.heap.size := by omega
          by_cases hk0 : k = 0
          · subst hk0
            go_wp2_with fail
            refine (HA.out _ (by (repeat' (first | exact Ext.refl _ | assumption | apply Ext.alloc | apply Ext.drew | refine Ext.set ?_ (by dsimp only; omega) _ | refine Ext.trans ?_ (by assumption))))).mono ?_
            rintro e w1 ⟨rfl, h1⟩; obtain ⟨hc_w1, hf_w1, hz_w1⟩ := bcell h1; (repeat (first | rw [World.size_alloc] at hz_w1 | rw [World.size_drew] at hz_w1 | rw [World.size_setCell] at hz_w1))
            go_wp2_with fail
            go_roundw
            case rel => exact ⟨1, by omega, rfl, by (repeat' (first | exact Ext.refl _ | assumption | apply Ext.alloc | apply Ext.drew | refine Ext.set ?_ (by dsimp only; omega) _ | refine Ext.trans ?_ (by assumption)))⟩
            case measure => simp [intOf]
          · by_cases hk1 : k = 1
            · subst hk1
              go_wp2_with fail
              refine (HB.out _ (by (repeat' (first | exact Ext.refl _ | assumption | apply Ext.alloc | apply Ext.drew | refine Ext.set ?_ (by dsimp only; omega) _ | refine Ext.trans ?_ (by assumption))))).mono ?_
              rintro e w1 ⟨rfl, h1⟩; obtain ⟨hc_w1, hf_w1, hz_w1⟩ := bcell h1; (repeat (first | rw [World.size_alloc] at hz_w1 | rw [World.size_drew] at hz_w1 | rw [World.size_setCell] at hz_w1))
              go_wp2_with fail
              go_roundw
              case rel => exact ⟨2, by omega, rfl, by (repeat' (first | exact Ext.refl _ | assumption | apply Ext.alloc | apply Ext.drew | refine Ext.set ?_ (by dsimp only; omega) _ | refine Ext.trans ?_ (by assumption)))⟩
              case measure => simp [intOf]
            · obtain rfl : k = 2 := by omega
              clear hk0 hk1
              go_wp2_with fail
              refine (HG.out _ (by (repeat' (first | exact Ext.refl _ | assumption | apply Ext.alloc | apply Ext.drew | refine Ext.set ?_ (by dsimp only; omega) _ | refine Ext.trans ?_ (by assumption))))).mono ?_
              rintro e w1 ⟨rfl, h1⟩; obtain ⟨hc_w1, hf_w1, hz_w1⟩ := bcell h1; (repeat (first | rw [World.size_alloc] at hz_w1 | rw [World.size_drew] at hz_w1 | rw [World.size_setCell] at hz_w1)); have : w.heap.size < w1.heap.size := (by omega)
              go_wp2_with fail
              go_ret3
              exact Ret3.mk rfl (by (repeat' (first | exact Ext.refl _ | assumption | apply Ext.alloc | apply Ext.drew | refine Ext.set ?_ (by dsimp only; omega) _ | refine Ext.trans ?_ (by assumption))))
    · have h2' : (trkErr s b != 0) = true := by simpa using h2
      have hE : linkErr s a b gs t0 = trkErr s b := by rw [linkErr, if_neg (by simp [h1]), if_pos h2]
      rw [linkR_no (by rw [hE]; exact h2), hE]
      rw [h1] at HA
      generalize trkErr s b = E at *
      clear hE h1 hs hg h2 ha hb
      go_enter Try.func51, Try.ntmps51
      go_wp2_with fail
      go_loopw [25] (fun i wr => ∃ k : Nat, k ≤ 1 ∧ i = .int .i64 k ∧ Ext (w.alloc (.cells #[.slice A1 n1 c1, .int .i64 home, .slice A2 n2 c2, .slice A3 n3 c3] 28)) wr) (fun i _ => 2 - (intOf i).toNat)
      case atStart => exact ⟨0, Nat.zero_le _, rfl, Ext.refl _⟩
      case round =>
        obtain ⟨k, hk, rfl, hb⟩ := hrel
        obtain ⟨hcb, hfb, hzb⟩ := bcell hb
        simp only [World.size_alloc] at hzb
        have hwr0 : w.heap.size < wr.heap.size := by omega
        by_cases hk0 : k = 0
        · subst hk0
          go_wp2_with fail
          refine (HA.out _ (by (repeat' (first | exact Ext.refl _ | assumption | apply Ext.alloc | apply Ext.drew | refine Ext.set ?_ (by dsimp only; omega) _ | refine Ext.trans ?_ (by assumption))))).mono ?_
          rintro e w1 ⟨rfl, h1⟩; obtain ⟨hc_w1, hf_w1, hz_w1⟩ := bcell h1; (repeat (first | rw [World.size_alloc] at hz_w1 | rw [World.size_drew] at hz_w1 | rw [World.size_setCell] at hz_w1))
          go_wp2_with fail
          go_roundw
          case rel => exact ⟨1, by omega, rfl, by (repeat' (first | exact Ext.refl _ | assumption | apply Ext.alloc | apply Ext.drew | refine Ext.set ?_ (by dsimp only; omega) _ | refine Ext.trans ?_ (by assumption)))⟩
          case measure => simp [intOf]
        · obtain rfl : k = 1 := by omega
          go_wp2_with fail
          refine (HB.out _ (by (repeat' (first | exact Ext.refl _ | assumption | apply Ext.alloc | apply Ext.drew | refine Ext.set ?_ (by dsimp only; omega) _ | refine Ext.trans ?_ (by assumption))))).mono ?_
          rintro e w1 ⟨rfl, h1⟩; obtain ⟨hc_w1, hf_w1, hz_w1⟩ := bcell h1; (repeat (first | rw [World.size_alloc] at hz_w1 | rw [World.size_drew] at hz_w1 | rw [World.size_setCell] at hz_w1))
          go_wp2_with fail
          go_ret3
          exact Ret3.mk rfl (by (repeat' (first | exact Ext.refl _ | assumption | apply Ext.alloc | apply Ext.drew | refine Ext.set ?_ (by dsimp only; omega) _ | refine Ext.trans ?_ (by assumption))))
  · have h1' : (trkErr s a != 0) = true := by simpa using h1
    have hE : linkErr s a b gs t0 = trkErr s a := by rw [linkErr, if_pos h1]
    rw [linkR_no (by rw [hE]; exact h1), hE]
    generalize trkErr s a = E at *
    clear hE hs hg h1 ha hb
    go_enter Try.func51, Try.ntmps51
    go_wp2_with fail
    go_loopw [25] (fun i wr => i = .int .i64 0 ∧ Ext (w.alloc (.cells #[.slice A1 n1 c1, .int .i64 home, .slice A2 n2 c2, .slice A3 n3 c3] 28)) wr) (fun i _ => 2 - (intOf i).toNat)
    case atStart => exact ⟨rfl, Ext.refl _⟩
    case round =>
      obtain ⟨rfl, hb⟩ := hrel
      obtain ⟨hcb, hfb, hzb⟩ := bcell hb
      simp only [World.size_alloc] at hzb
      have hwr0 : w.heap.size < wr.heap.size := by omega
      go_wp2_with fail
      refine (HA.out _ (by (repeat' (first | exact Ext.refl _ | assumption | apply Ext.alloc | apply Ext.drew | refine Ext.set ?_ (by dsimp only; omega) _ | refine Ext.trans ?_ (by assumption))))).mono ?_
      rintro e w1 ⟨rfl, h1⟩; obtain ⟨hc_w1, hf_w1, hz_w1⟩ := bcell h1; (repeat (first | rw [World.size_alloc] at hz_w1 | rw [World.size_drew] at hz_w1 | rw [World.size_setCell] at hz_w1))
      go_wp2_with fail
      go_ret3
      exact Ret3.mk rfl (by (repeat' (first | exact Ext.refl _ | assumption | apply Ext.alloc | apply Ext.drew | refine Ext.set ?_ (by dsimp only; omega) _ | refine Ext.trans ?_ (by assumption))))
end Go.Proofs.Ytmgjjgmadiabfaa
