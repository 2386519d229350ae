/- Which guess is believed: the reference. No condition. -/
import Derived.Test.YtmgjjgmadiabfaaBelieve
namespace Go.Proofs.Ytmgjjgmadiabfaa
open Go.RowKit

def refFrom (F : St → List Int) : List St → Nat → Int → List Int → Int × List Int
  | [], _, b, w => (b, w)
  | g :: r, k, b, w => if b < 0 ∨ (F g).length < w.length then refFrom F r (k + 1) k (F g) else refFrom F r (k + 1) b w
theorem refFrom_one (F : St → List Int) : ∀ (l : List St) (k : Nat) (b : Int) (w : List Int), (refFrom F l k b w).1 = bestFrom (fun g => ((F g).length : Int)) l k b w.length
  | [], _, _, _ => rfl
  | g :: r, k, b, w => by
    rw [refFrom, bestFrom]
    by_cases h : b < 0 ∨ (F g).length < w.length
    · rw [if_pos h, if_pos (by omega)]; exact refFrom_one F r _ _ _
    · rw [if_neg h, if_neg (by omega)]; exact refFrom_one F r _ _ _
theorem refFrom_two (F : St → List Int) (d : St) : ∀ (l : List St) (k : Nat) (b : Int) (w : List Int), 0 ≤ b → b < k → (refFrom F l k b w).2 = if (refFrom F l k b w).1 < k then w else F (l.getD ((refFrom F l k b w).1.toNat - k) d)
  | [], k, b, w, h0, h1 => by rw [refFrom, if_pos h1]
  | g :: r, k, b, w, h0, h1 => by
    rw [refFrom]
    by_cases h : b < 0 ∨ (F g).length < w.length
    · rw [if_pos h, refFrom_two F d r (k + 1) k (F g) (by omega) (by omega)]
      have hb := bestFrom_at (fun g => ((F g).length : Int)) r (k + 1) k (F g).length (by omega) (by omega)
      rw [refFrom_one]
      by_cases h2 : bestFrom (fun g => ((F g).length : Int)) r (k + 1) k (F g).length < ((k + 1 : Nat) : Int)
      · rw [if_pos h2]
        have h3 : k ≤ bestFrom (fun g => ((F g).length : Int)) r (k + 1) k (F g).length := by
          have : ∀ (f : St → Int) (l : List St) (k k0 : Nat) (out least : Int), (k0 : Int) ≤ out → k0 ≤ k → (k0 : Int) ≤ bestFrom f l k out least := by
            intro f l
            induction l with
            | nil => intro k k0 out least h _; exact h
            | cons x r ih =>
              intro k k0 out least h h'
              rw [bestFrom]
              by_cases h2 : out < 0 ∨ f x < least
              · rw [if_pos h2]; exact ih _ _ _ _ (by omega) (by omega)
              · rw [if_neg h2]; exact ih _ _ _ _ h (by omega)
          exact this _ _ _ _ _ _ (by omega) (by omega)
        rw [if_neg (by omega)]
        have h4 : (bestFrom (fun g => ((F g).length : Int)) r (k + 1) k (F g).length).toNat - k = 0 := by omega
        rw [h4]; rfl
      · rw [if_neg h2, if_neg (by omega)]
        have h4 : (bestFrom (fun g => ((F g).length : Int)) r (k + 1) k (F g).length).toNat - k = (bestFrom (fun g => ((F g).length : Int)) r (k + 1) k (F g).length).toNat - (k + 1) + 1 := by omega
        rw [h4]; rfl
    · rw [if_neg h, refFrom_two F d r (k + 1) b w h0 (by omega)]
      by_cases h2 : (refFrom F r (k + 1) b w).1 < k
      · rw [if_pos (by omega), if_pos h2]
      · rw [if_neg h2]
        have h3 : (refFrom F r (k + 1) b w).1 ≠ k := by
          rw [refFrom_one]
          have : ∀ (f : St → Int) (l : List St) (k : Nat) (out least : Int), out < k → bestFrom f l (k + 1) out least ≠ k := by
            intro f l
            suffices h : ∀ (k k1 : Nat) (out least : Int), out ≠ k → k < k1 → bestFrom f l k1 out least ≠ k by
              intro k out least h1; exact h k (k + 1) out least (by omega) (by omega)
            induction l with
            | nil => intro k k1 out least h _; exact h
            | cons x r ih =>
              intro k k1 out least h h'
              rw [bestFrom]
              by_cases h2 : out < 0 ∨ f x < least
              · rw [if_pos h2]; exact ih _ _ _ _ (by omega) (by omega)
              · rw [if_neg h2]; exact ih _ _ _ _ h (by omega)
          exact this _ _ _ _ _ (by omega)
        rw [if_neg (by omega)]
        have h4 : (refFrom F r (k + 1) b w).1.toNat - k = (refFrom F r (k + 1) b w).1.toNat - (k + 1) + 1 := by omega
        rw [h4]; rfl
theorem refFrom_eq (F : St → List Int) (d : St) {l : List St} (h : l ≠ []) :
    (refFrom F l 0 (-1) []).1 = bestFrom (fun g => ((F g).length : Int)) l 0 (-1) 0 ∧ (refFrom F l 0 (-1) []).2 = F (l.getD (bestFrom (fun g => ((F g).length : Int)) l 0 (-1) 0).toNat d) := by
  have h1 := refFrom_one F l 0 (-1) []
  refine ⟨h1, ?_⟩
  cases l with
  | nil => exact absurd rfl h
  | cons g r =>
    rw [List.length_nil] at h1
    rw [← show ((0 : Nat) : Int) = 0 from rfl, ← h1, refFrom, if_pos (.inl (by omega)), Nat.zero_add]
    rw [refFrom_two F d r 1 (0 : Nat) (F g) (by omega) (by omega)]
    have hb := bestFrom_at (fun g => ((F g).length : Int)) r 1 (0 : Nat) (F g).length (by omega) (by omega)
    rw [← refFrom_one] at hb
    by_cases h2 : (refFrom F r 1 (0 : Nat) (F g)).1 < (1 : Nat)
    · rw [if_pos h2]
      have : (refFrom F r 1 (0 : Nat) (F g)).1.toNat = 0 := by omega
      rw [this]; rfl
    · rw [if_neg h2]
      have : (refFrom F r 1 (0 : Nat) (F g)).1.toNat = (refFrom F r 1 (0 : Nat) (F g)).1.toNat - 1 + 1 := by omega
      rw [this]; rfl

set_option maxRecDepth 4000 in
set_option maxHeartbeats 2000000 in
theorem refBelieve_c (A1 : Option Addr) (n1 c1 : Nat) (home : Int) (A2 : Option Addr) (n2 c2 : Nat) (A3 : Option Addr) (n3 c3 : Nat) (s : Sky) (A : Option Addr) (n c : Nat) (l : List Sight) (B : Option Addr) (m d : Nat) (gs : List St) (t0 : Int) (w : World) (hs : IsSky w A1 n1 home A2 n2 A3 n3 s) (hl : Sights w A n l) (hg : Sts w B m gs) :
    Calls Try.prog 44 #[.agg #[.slice A1 n1 c1, .int .i64 home, .slice A2 n2 c2, .slice A3 n3 c3], .slice A n c, .slice B m d, .int .i64 t0] w (Ret3 w (believeN s l gs t0) (believeL s l gs t0) (believeE s l gs t0)) := by
  have HT := Lib.hid fun W (hW : Ext w W) => refCheckTracklet_c A1 n1 c1 home A2 n2 c2 A3 n3 c3 s A n c l W (hs.ext hW) (Sights.ext hW hl)
  have HA := Lib.hid fun W (hW : Ext w W) => asked_c B m d gs t0 W (Sts.ext hW hg)
  unfold believeN believeL believeE
  by_cases h1 : trkErr s l = 0
  · by_cases h2 : askErr gs t0 = 0
    · have hm := hg.le
      have hml := hg.len
      by_cases h3 : gs = []
      · subst h3
        have hm0 : m = 0 := hml
        subst hm0
        rw [h1, h2]
        rw [h1] at HT
        rw [h2] at HA
        simp only [ne_eq, not_true, false_or, List.length_nil, if_true, if_false]
        clear h1 h2 hs hl hg hml
        go_enter Try.func44, Try.ntmps44
        go_wp2_with fail
        refine (HT.out _ (by (repeat' (first | exact Ext.refl _ | assumption | apply Ext.alloc | apply Ext.drew | refine Ext.set ?_ (by dsimp only; omega) _ | refine Ext.trans ?_ (by assumption))))).mono ?_
        rintro e w1 ⟨rfl, h1⟩; obtain ⟨hc_w1, hf_w1, hz_w1⟩ := bcell h1; (repeat (first | rw [World.size_alloc] at hz_w1 | rw [World.size_drew] at hz_w1 | rw [World.size_setCell] at hz_w1)); have : w.heap.size < w1.heap.size := (by omega)
        go_wp2_with fail
        refine (HA.out _ (by (repeat' (first | exact Ext.refl _ | assumption | apply Ext.alloc | apply Ext.drew | refine Ext.set ?_ (by dsimp only; omega) _ | refine Ext.trans ?_ (by assumption))))).mono ?_
        rintro e w2 ⟨rfl, h2⟩; obtain ⟨hc_w2, hf_w2, hz_w2⟩ := bcell h2; (repeat (first | rw [World.size_alloc] at hz_w2 | rw [World.size_drew] at hz_w2 | rw [World.size_setCell] at hz_w2)); have : w.heap.size < w2.heap.size := (by omega)
        go_wp2_with fail
        go_ret3
        exact Ret3.mk rfl (by (repeat' (first | exact Ext.refl _ | assumption | apply Ext.alloc | apply Ext.drew | refine Ext.set ?_ (by dsimp only; omega) _ | refine Ext.trans ?_ (by assumption))))
      · have hR := refFrom_eq (fun g => wrongL s l g t0) ⟨0, 0, 0, 0⟩ h3
        have hlen : gs.length ≠ 0 := fun h => h3 (List.eq_nil_of_length_eq_zero h)
        rw [h1, h2]
        simp only [ne_eq, not_true, false_or, hlen, if_false]
        have e1 : bestFrom (lenW s l t0) gs 0 (-1) 0 = (refFrom (fun g => wrongL s l g t0) gs 0 (-1) []).1 := hR.1.symm
        have e2 : wrongL s l (gs.getD (bestFrom (lenW s l t0) gs 0 (-1) 0).toNat ⟨0, 0, 0, 0⟩) t0 = (refFrom (fun g => wrongL s l g t0) gs 0 (-1) []).2 := hR.2.symm
        rw [e2, e1]
        have hok := trk_ok h1
        have hn64 : n ≤ 64 := by rw [hl.len]; exact trk_len h1
        obtain ⟨hm64, ht, hgo⟩ := ask_ok h2
        have HF := Lib.hid fun (g : St) (hgm : g ∈ gs) (x : Sight) (hx : x ∈ l) W (hW : Ext w W) => fits_c A1 n1 c1 home A2 n2 c2 A3 n3 c3 s x.kind x.station x.catalog x.tick x.dx x.dy x.err x.lo x.hi g.x g.y g.u g.v t0 W (hs.ext hW) (hok x hx) (hgo g hgm) ht
        rw [h1] at HT
        rw [h2] at HA
        have hm0 : ((m : Int) == 0) = false := by simp; omega
        have Hml := Lib.hid hml
        have Hln := Lib.hid hl.len
        have HGS := Lib.hid fun W (hW : Ext w W) => Sts.ext hW hg
        have HLS := Lib.hid fun W (hW : Ext w W) => Sights.ext hW hl
        have hm64' : m ≤ 64 := by omega
        obtain ⟨ii, hii, hi0, hi1, hi2⟩ := info_parts info_int
        generalize hRR : refFrom (fun g => wrongL s l g t0) gs 0 (-1) [] = RR
        have HRR := Lib.hid hRR
        obtain ⟨R1, R2⟩ := RR
        dsimp only
        clear h1 h2 h3 hR e1 e2 hlen hok hgo ht hs hl hg hml hm64 hRR
        go_enter Try.func44, Try.ntmps44
        go_wp2_with fail
        refine (HT.out _ (by (repeat' (first | exact Ext.refl _ | assumption | apply Ext.alloc | apply Ext.drew | refine Ext.set ?_ (by dsimp only; omega) _ | refine Ext.trans ?_ (by assumption))))).mono ?_
        rintro e w1 ⟨rfl, h1⟩; obtain ⟨hc_w1, hf_w1, hz_w1⟩ := bcell h1; (repeat (first | rw [World.size_alloc] at hz_w1 | rw [World.size_drew] at hz_w1 | rw [World.size_setCell] at hz_w1)); have : w.heap.size < w1.heap.size := (by omega)
        go_wp2_with fail
        refine (HA.out _ (by (repeat' (first | exact Ext.refl _ | assumption | apply Ext.alloc | apply Ext.drew | refine Ext.set ?_ (by dsimp only; omega) _ | refine Ext.trans ?_ (by assumption))))).mono ?_
        rintro e w2 ⟨rfl, h2⟩; obtain ⟨hc_w2, hf_w2, hz_w2⟩ := bcell h2; (repeat (first | rw [World.size_alloc] at hz_w2 | rw [World.size_drew] at hz_w2 | rw [World.size_setCell] at hz_w2)); have : w.heap.size < w2.heap.size := (by omega)
        have e2 : Ext w w2 := by (repeat' (first | exact Ext.refl _ | assumption | apply Ext.alloc | apply Ext.drew | refine Ext.set ?_ (by dsimp only; omega) _ | refine Ext.trans ?_ (by assumption)))
        go_wp2_with fail
        go_loopw [12, 13, 14] (fun bst wrg i wr => ∃ (k : Nat) (b : Int) (L : List Int) (A' : Option Addr) (c' : Nat), k ≤ m ∧ bst = .int .i64 b ∧ wrg = .slice A' L.length c' ∧ i = .int .i64 k ∧ Hid (refFrom (fun g => wrongL s l g t0) (gs.drop k) k b L = (R1, R2)) ∧ Hid (Ints wr A' L.length L) ∧ Ext w2 wr) (fun _ _ i _ => m - (intOf i).toNat)
        case atStart => exact ⟨0, -1, [], none, 0, Nat.zero_le _, rfl, rfl, rfl, HRR.out, SlR.nil _ _ _, Ext.refl _⟩
        case round =>
          obtain ⟨k, b, L, A', c', hk, rfl, rfl, rfl, HI, HL, hb⟩ := hrel
          obtain ⟨hcb, hfb, hzb⟩ := bcell hb
          have hL9 := HL.out.le
          have hwr0 : w.heap.size < wr.heap.size := by omega
          by_cases hlt : k < m
          · obtain ⟨q, off, g, rfl, HD, hgm, hgc⟩ := (HGS.out _ (e2.trans hb)).one hlt
            have hi := HI.out; rw [HD.out, refFrom] at hi
            have Hi := Lib.hid hi
            have HFg := Lib.hid (HF.out g hgm)
            have HGC := Lib.hid fun W (hW : Ext wr W) => stAt.ext hW hgc
            have hq := World.block_lt_of_cell? wr _ hgc.1
            dsimp only at hq
            clear hi hgc hgm
            obtain ⟨wo, rfl⟩ : ∃ wo : World, wo = wr := ⟨_, rfl⟩
            go_wp2_with fail
            go_loopw [15, 16] (fun v i wr => ∃ (j : Nat) (acc : List Int), j ≤ n ∧ i = .int .i64 j ∧ acc.length ≤ j ∧ Hid (acc ++ wrongFrom s g t0 (l.drop j) j = wrongFrom s g t0 l 0) ∧ Hid (OwnInts wo.heap.size wr v acc) ∧ Ext wo wr) (fun _ i _ => n - (intOf i).toNat)
            case atStart => exact ⟨0, [], Nat.zero_le _, rfl, Nat.le_refl _, rfl, OwnInts.nil _ _, Ext.refl _⟩
            case round =>
              obtain ⟨j, acc, hj, rfl, hak, HJ, HO, hb2⟩ := hrel
              obtain ⟨hcb2, hfb2, hzb2⟩ := bcell hb2
              have hw0 : w.heap.size < wr.heap.size := by omega
              have hq' : q < wr.heap.size := by omega
              by_cases hlt2 : j < n
              · obtain ⟨qq, off2, x, rfl, HE, hxm, hx⟩ := (HLS.out _ (e2.trans (hb.trans hb2))).one hlt2
                obtain ⟨hx0, hx1, hx2, hx3, hx4, hx5, hx6, hx7, hx8⟩ := hx
                obtain ⟨hg0, hg1, hg2, hg3⟩ := HGC.out wo (Ext.refl _)
                have hjj := HJ.out; rw [HE.out, wrongFrom] at hjj
                have hcx := HFg.out x hxm
                have hee : fitsM s x ⟨g.x, g.y, g.u, g.v⟩ t0 = fitsM s x g t0 := rfl
                rw [hee] at hcx
                generalize fitsM s x g t0 = M at hjj hcx
                have HFx := Lib.hid hcx; clear hcx hee
                have Hj := Lib.hid hjj; clear hjj
                have hbw := World.block_lt_of_cell? wr _ hx0
                dsimp only at hbw
                go_wp2_with fail
                refine wp_region_text (by kernel_rfl) (by kernel_rfl) ?_
                repeat' (first | (refine bl_off (by rfl) ?_; simp only [Act.put, List.setIfInBounds_toArray, List.set_cons_zero, List.set_cons_succ]) | (apply bl_op; rfl; (intro w1 h1; obtain ⟨hc, hf, hz⟩ := bcell h1; go_simp; (try go_bits); (first | exact ⟨rfl, Ext.refl _⟩ | (apply gives_call; first | (go_at_call 102; exact HFx.out _ (by (repeat' (first | exact Ext.refl _ | assumption | apply Ext.alloc | apply Ext.drew | refine Ext.set ?_ (by dsimp only; omega) _ | refine Ext.trans ?_ (by assumption)))))) | (go_invoke; go_simp; apply gives_call; first | (go_at_call 102; exact HFx.out _ (by (repeat' (first | exact Ext.refl _ | assumption | apply Ext.alloc | apply Ext.drew | refine Ext.set ?_ (by dsimp only; omega) _ | refine Ext.trans ?_ (by assumption)))))))); simp only [Act.put, List.setIfInBounds_toArray, List.set_cons_zero, List.set_cons_succ]) | (refine bl_split rfl rfl (fun hx => ?_) (fun hx => ?_) <;> simp only [hx]))
                refine bl_nil ?_
                intro w4 h4
                obtain ⟨hc4, hf4, hz4⟩ := bcell h4
                have HO4 := Lib.hid (HO.out.ext h4)
                cases M
                · go_wp2_with (at_builtin; go_loud (refine wpList_append_sl rfl (.tmp 59) (.tmp 61) 38 rfl wo.heap.size 3 ii _ 1 8 Try.underlying38 hii hi0 hi1 hi2 rfl (by decide) _ acc.length (acc.flatMap intC) rfl (own_ext_keep HO4.out (by (repeat' (first | exact Ext.refl _ | assumption | apply Ext.alloc | apply Ext.drew | refine Ext.set ?_ (by dsimp only; omega) _ | refine Ext.trans ?_ (by assumption))))) (some ⟨w4.heap.size, 0, none⟩) 1 1 [.int .i64 j] rfl rfl (.inr ⟨_, rfl, new_cells (by simp)⟩) (by intro u hu; simp at hu; rcases hu with rfl; rfl) (by unfold maxLen; omega) (by omega) (by simp; omega) ?_))
                  intro v5 w5 ho5 hg5 hn5
                  have e5 : Ext wo w5 := own_ext (by (repeat' (first | exact Ext.refl _ | assumption | apply Ext.alloc | apply Ext.drew | refine Ext.set ?_ (by dsimp only; omega) _ | refine Ext.trans ?_ (by assumption)))) (own_ext_keep HO4.out (by (repeat' (first | exact Ext.refl _ | assumption | apply Ext.alloc | apply Ext.drew | refine Ext.set ?_ (by dsimp only; omega) _ | refine Ext.trans ?_ (by assumption))))) hg5 (by omega)
                  have HO5 := Lib.hid (OwnInts.ofSnoc rfl ho5)
                  clear ho5 hg5 hn5
                  go_wp2_with fail
                  go_roundw
                  case rel => exact ⟨j + 1, acc ++ [(j : Int)], by omega, by go_num, by simp; omega, by have hi := Hj.out; simpa [Hid] using hi, HO5, e5⟩
                  case measure => simp [intOf]; omega
                · go_wp2_with fail
                  go_roundw
                  case rel => exact ⟨j + 1, acc, by omega, by go_num, by omega, by have hi := Hj.out; simpa [Hid] using hi, HO4.out.ext (by (repeat' (first | exact Ext.refl _ | assumption | apply Ext.alloc | apply Ext.drew | refine Ext.set ?_ (by dsimp only; omega) _ | refine Ext.trans ?_ (by assumption)))), by (repeat' (first | exact Ext.refl _ | assumption | apply Ext.alloc | apply Ext.drew | refine Ext.set ?_ (by dsimp only; omega) _ | refine Ext.trans ?_ (by assumption)))⟩
                  case measure => simp [intOf]; omega
              · have : j = n := by omega
                subst this
                have hjj := HJ.out
                rw [Hln.out, List.drop_length, wrongFrom, List.append_nil] at hjj
                obtain ⟨A2, c2', hv, hL2⟩ := HO.out.sl
                have h66 : acc.length ≤ 9223372036854775807 := by omega
                have hW : acc = wrongL s l g t0 := hjj
                have HL2 := Lib.hid hL2
                subst hv
                rw [← hW] at Hi
                clear hjj hL2 hW HO HJ
                by_cases hlt3 : b < 0 ∨ acc.length < L.length
                · have hi := Hi.out
                  rw [if_pos hlt3] at hi
                  have Hi2 := Lib.hid hi
                  clear hi Hi
                  rcases hlt3 with h0 | h0
                  · go_wp2_with fail
                    go_roundw
                    case rel => exact ⟨k + 1, k, acc, A2, c2', by omega, rfl, rfl, by go_num, Hi2, HL2, by (repeat' (first | exact Ext.refl _ | assumption | apply Ext.alloc | apply Ext.drew | refine Ext.set ?_ (by dsimp only; omega) _ | refine Ext.trans ?_ (by assumption)))⟩
                    case measure => simp [intOf]; omega
                  · by_cases hb0 : b < 0
                    · go_wp2_with fail
                      go_roundw
                      case rel => exact ⟨k + 1, k, acc, A2, c2', by omega, rfl, rfl, by go_num, Hi2, HL2, by (repeat' (first | exact Ext.refl _ | assumption | apply Ext.alloc | apply Ext.drew | refine Ext.set ?_ (by dsimp only; omega) _ | refine Ext.trans ?_ (by assumption)))⟩
                      case measure => simp [intOf]; omega
                    · go_wp2_with fail
                      go_roundw
                      case rel => exact ⟨k + 1, k, acc, A2, c2', by omega, rfl, rfl, by go_num, Hi2, HL2, by (repeat' (first | exact Ext.refl _ | assumption | apply Ext.alloc | apply Ext.drew | refine Ext.set ?_ (by dsimp only; omega) _ | refine Ext.trans ?_ (by assumption)))⟩
                      case measure => simp [intOf]; omega
                · have hi := Hi.out
                  rw [if_neg hlt3] at hi
                  have Hi2 := Lib.hid hi
                  have h0 : 0 ≤ b := by omega
                  have h0' : L.length ≤ acc.length := by omega
                  clear hi Hi hlt3
                  go_wp2_with fail
                  go_roundw
                  case rel => exact ⟨k + 1, b, L, A', c', by omega, rfl, rfl, by go_num, Hi2, Ints.ext (by (repeat' (first | exact Ext.refl _ | assumption | apply Ext.alloc | apply Ext.drew | refine Ext.set ?_ (by dsimp only; omega) _ | refine Ext.trans ?_ (by assumption)))) HL.out, by (repeat' (first | exact Ext.refl _ | assumption | apply Ext.alloc | apply Ext.drew | refine Ext.set ?_ (by dsimp only; omega) _ | refine Ext.trans ?_ (by assumption)))⟩
                  case measure => simp [intOf]; omega
          · have : k = m := by omega
            subst this
            have hi := HI.out
            rw [Hml.out, List.drop_length, refFrom] at hi
            have HI2 := Lib.hid hi
            clear hi HI
            go_wp2_with fail
            go_ret3
            have hi := HI2.out
            injection hi with q1 q2
            subst q1 q2
            exact ⟨A', c', rfl, HL.out, by (repeat' (first | exact Ext.refl _ | assumption | apply Ext.alloc | apply Ext.drew | refine Ext.set ?_ (by dsimp only; omega) _ | refine Ext.trans ?_ (by assumption)))⟩
    · have h2' : (askErr gs t0 == 0) = false := by simpa using h2
      have h2'' : (askErr gs t0 != 0) = true := by simpa using h2
      rw [h1]
      rw [h1] at HT
      simp only [ne_eq, not_true, false_or, h2, not_false_eq_true, true_or, if_true, if_false]
      generalize askErr gs t0 = E at *
      clear h1 hs hl hg h2
      go_enter Try.func44, Try.ntmps44
      go_wp2_with fail
      refine (HT.out _ (by (repeat' (first | exact Ext.refl _ | assumption | apply Ext.alloc | apply Ext.drew | refine Ext.set ?_ (by dsimp only; omega) _ | refine Ext.trans ?_ (by assumption))))).mono ?_
      rintro e w1 ⟨rfl, h1⟩; obtain ⟨hc_w1, hf_w1, hz_w1⟩ := bcell h1; (repeat (first | rw [World.size_alloc] at hz_w1 | rw [World.size_drew] at hz_w1 | rw [World.size_setCell] at hz_w1)); have : w.heap.size < w1.heap.size := (by omega)
      go_wp2_with fail
      refine (HA.out _ (by (repeat' (first | exact Ext.refl _ | assumption | apply Ext.alloc | apply Ext.drew | refine Ext.set ?_ (by dsimp only; omega) _ | refine Ext.trans ?_ (by assumption))))).mono ?_
      rintro e w2 ⟨rfl, h2⟩; obtain ⟨hc_w2, hf_w2, hz_w2⟩ := bcell h2; (repeat (first | rw [World.size_alloc] at hz_w2 | rw [World.size_drew] at hz_w2 | rw [World.size_setCell] at hz_w2)); have : w.heap.size < w2.heap.size := (by omega)
      go_wp2_with fail
      go_ret3
      exact Ret3.mk rfl (by (repeat' (first | exact Ext.refl _ | assumption | apply Ext.alloc | apply Ext.drew | refine Ext.set ?_ (by dsimp only; omega) _ | refine Ext.trans ?_ (by assumption))))
  · have h1' : (trkErr s l == 0) = false := by simpa using h1
    have h1'' : (trkErr s l != 0) = true := by simpa using h1
    simp only [ne_eq, h1, not_false_eq_true, true_or, if_true]
    generalize trkErr s l = E at *
    clear hs hl hg h1
    go_enter Try.func44, Try.ntmps44
    go_wp2_with fail
    refine (HT.out _ (by (repeat' (first | exact Ext.refl _ | assumption | apply Ext.alloc | apply Ext.drew | refine Ext.set ?_ (by dsimp only; omega) _ | refine Ext.trans ?_ (by assumption))))).mono ?_
    rintro e w1 ⟨rfl, h1⟩; obtain ⟨hc_w1, hf_w1, hz_w1⟩ := bcell h1; (repeat (first | rw [World.size_alloc] at hz_w1 | rw [World.size_drew] at hz_w1 | rw [World.size_setCell] at hz_w1)); have : w.heap.size < w1.heap.size := (by omega)
    go_wp2_with fail
    go_ret3
    exact Ret3.mk rfl (by (repeat' (first | exact Ext.refl _ | assumption | apply Ext.alloc | apply Ext.drew | refine Ext.set ?_ (by dsimp only; omega) _ | refine Ext.trans ?_ (by assumption))))
end Go.Proofs.Ytmgjjgmadiabfaa
