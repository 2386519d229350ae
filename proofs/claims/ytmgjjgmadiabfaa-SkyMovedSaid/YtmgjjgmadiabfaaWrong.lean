/- Which sights a guess misses: the program. No condition. -/
import Derived.Test.YtmgjjgmadiabfaaOwnInts
namespace Go.Proofs.Ytmgjjgmadiabfaa
open Go.RowKit

/-- The numbers, from k on, of the sights that a guess misses. -/
def wrongFrom (s : Sky) (g : St) (t0 : Int) : List Sight → Nat → List Int
  | [], _ => []
  | x :: r, k => if fitsM s x g t0 then wrongFrom s g t0 r (k + 1) else (k : Int) :: wrongFrom s g t0 r (k + 1)
def wrongL (s : Sky) (l : List Sight) (g : St) (t0 : Int) : List Int := wrongFrom s g t0 l 0

set_option maxRecDepth 4000 in
set_option maxHeartbeats 1000000 in
theorem wrong_c (A1 : Option Addr) (n1 c1 : Nat) (home : Int) (A2 : Option Addr) (n2 c2 : Nat) (A3 : Option Addr) (n3 c3 : Nat) (s : Sky) (gx gy gu gv : Int) (t0 : Int) (A : Option Addr) (n c : Nat) (l : List Sight) (b1 b2 b3 : Nat) (w : World) (hs : IsSky w A1 n1 home A2 n2 A3 n3 s) (hl : Sights w A n l)
    (h1 : ∃ t, Blk w b1 t #[.slice A n c]) (h2 : ∃ t, Blk w b2 t #[.int .i64 t0]) (h3 : ∃ t, Blk w b3 t #[.slice A1 n1 c1, .int .i64 home, .slice A2 n2 c2, .slice A3 n3 c3])
    (hok : ∀ x ∈ l, sightErr2 s x = 0) (hg : gOK ⟨gx, gy, gu, gv⟩ = true) (ht : within t0 0 1073741824 = true) (h66 : n ≤ 66) :
    Calls Try.prog 97 #[.agg #[.int .i64 gx, .int .i64 gy, .int .i64 gu, .int .i64 gv], .pointer (some ⟨b1, 0, none⟩), .pointer (some ⟨b2, 0, none⟩), .pointer (some ⟨b3, 0, none⟩)] w fun e w' =>
      ∃ A' c', e = .returned (.slice A' (wrongL s l ⟨gx, gy, gu, gv⟩ t0).length c') ∧ Ints w' A' (wrongL s l ⟨gx, gy, gu, gv⟩ t0).length (wrongL s l ⟨gx, gy, gu, gv⟩ t0) ∧ Ext w w' := by
  obtain ⟨T1, h1⟩ := h1
  obtain ⟨T2, h2⟩ := h2
  obtain ⟨T3, h3⟩ := h3
  have HF := Lib.hid fun (x : Sight) (hx : x ∈ l) W (hW : Ext w W) => fails_c A1 n1 c1 home A2 n2 c2 A3 n3 c3 s x.kind x.station x.catalog x.tick x.dx x.dy x.err x.lo x.hi gx gy gu gv t0 W (hs.ext hW) (hok x hx) hg ht
  have hln := Lib.hid hl.len
  obtain ⟨ii, hii, hi0, hi1, hi2⟩ := info_parts info_int
  have hd1 := h1.cell
  have hd2 := h2.cell
  have hd3 := h3.cell
  have hl1 := h1.lt
  have hl2 := h2.lt
  have hl3 := h3.lt
  have H1 := Lib.hid h1
  have H2 := Lib.hid h2
  have H3 := Lib.hid h3
  unfold wrongL
  clear hok hg ht hs h1 h2 h3
  go_enter Try.func97, Try.ntmps97
  go_wp2_with fail
  go_loopw [6, 11] (fun v i wr => ∃ (k : Nat) (acc : List Int), k ≤ n ∧ i = .int .i64 k ∧ acc.length ≤ k ∧ Hid (acc ++ wrongFrom s ⟨gx, gy, gu, gv⟩ t0 (l.drop k) k = wrongFrom s ⟨gx, gy, gu, gv⟩ t0 l 0) ∧ Hid (OwnInts (w.heap.size + 1) wr v acc) ∧ Ext (w.alloc (.cells #[.int .i64 gx, .int .i64 gy, .int .i64 gu, .int .i64 gv] 53)) wr) (fun _ i _ => n - (intOf i).toNat)
  case atStart => exact ⟨0, [], Nat.zero_le _, rfl, Nat.le_refl _, rfl, OwnInts.nil _ _, Ext.refl _⟩
  case round =>
    obtain ⟨k, acc, hk, rfl, hak, HI, HO, hb⟩ := hrel
    obtain ⟨hcb, hfb, hzb⟩ := bcell hb
    simp only [World.size_alloc] at hzb
    have hwr0 : w.heap.size < wr.heap.size := by omega
    have hq1 : b1 < w.heap.size + 1 := by omega
    have hq2 : b2 < w.heap.size + 1 := by omega
    have hq3 : b3 < w.heap.size + 1 := by omega
    have hr1 : b1 < wr.heap.size := by omega
    have hr2 : b2 < wr.heap.size := by omega
    have hr3 : b3 < wr.heap.size := by omega
    by_cases hlt : k < n
    · obtain ⟨b, off, x, rfl, HD, hxm, hx⟩ := hl.one hlt
      obtain ⟨hx0, hx1, hx2, hx3, hx4, hx5, hx6, hx7, hx8⟩ := sightAt.ext (Ext.trans (by (repeat' (first | exact Ext.refl _ | assumption | apply Ext.alloc | apply Ext.drew | refine Ext.set ?_ (by dsimp only; omega) _ | refine Ext.trans ?_ (by assumption)))) hb) hx
      have hi := HI.out; rw [HD.out, wrongFrom] at hi
      have hcx := HF.out x hxm
      generalize fitsM s x ⟨gx, gy, gu, gv⟩ t0 = M at hi hcx
      have HFx := Lib.hid hcx; clear hcx
      have Hi := Lib.hid hi; clear hi
      have hbw := World.block_lt_of_cell? wr _ hx0
      dsimp only at hbw
      clear hx
      go_wp2_with fail
      refine (HFx.out _ (by (repeat' (first | exact Ext.refl _ | assumption | apply Ext.alloc | apply Ext.drew | refine Ext.set ?_ (by dsimp only; omega) _ | refine Ext.trans ?_ (by assumption))))).mono ?_
      rintro e w2 ⟨rfl, h2⟩; obtain ⟨hc_w2, hf_w2, hz_w2⟩ := bcell h2; (repeat (first | rw [World.size_alloc] at hz_w2 | rw [World.size_drew] at hz_w2 | rw [World.size_setCell] at hz_w2))
      have hw2a : wr.heap.size < w2.heap.size := by omega
      cases M
      · have e2 : Ext wr w2 := Ext.trans (by (repeat' (first | exact Ext.refl _ | assumption | apply Ext.alloc | apply Ext.drew | refine Ext.set ?_ (by dsimp only; omega) _ | refine Ext.trans ?_ (by assumption)))) h2
        have HO2 := Lib.hid (HO.out.ext e2)
        go_wp2_with (at_builtin; go_loud (refine wpList_append_sl rfl (.tmp 22) (.tmp 24) 38 rfl (w.heap.size + 1) 3 ii _ 1 8 Try.underlying38 hii hi0 hi1 hi2 rfl (by decide) _ acc.length (acc.flatMap intC) rfl (own_ext_keep HO2.out (by (repeat' (first | exact Ext.refl _ | assumption | apply Ext.alloc | apply Ext.drew | refine Ext.set ?_ (by dsimp only; omega) _ | refine Ext.trans ?_ (by assumption))))) (some ⟨w2.heap.size, 0, none⟩) 1 1 [.int .i64 k] rfl rfl (.inr ⟨_, rfl, new_cells (by simp)⟩) (by intro u hu; simp at hu; rcases hu with rfl; rfl) (by unfold maxLen; omega) (by omega) (by simp; omega) ?_))
        intro v3 w3 ho3 hg3 hn3
        have e3 : Ext (w.alloc (.cells #[.int .i64 gx, .int .i64 gy, .int .i64 gu, .int .i64 gv] 53)) w3 := own_ext (by (repeat' (first | exact Ext.refl _ | assumption | apply Ext.alloc | apply Ext.drew | refine Ext.set ?_ (by dsimp only; omega) _ | refine Ext.trans ?_ (by assumption)))) (own_ext_keep HO2.out (by (repeat' (first | exact Ext.refl _ | assumption | apply Ext.alloc | apply Ext.drew | refine Ext.set ?_ (by dsimp only; omega) _ | refine Ext.trans ?_ (by assumption))))) hg3 (by simp)
        have HO3 := Lib.hid (OwnInts.ofSnoc rfl ho3)
        clear ho3 hg3 hn3
        go_wp2_with fail
        go_roundw
        case rel => exact ⟨k + 1, acc ++ [(k : Int)], by omega, by go_num, by simp; omega, by have hi := Hi.out; simpa [Hid] using hi, HO3, e3⟩
        case measure => simp [intOf]; omega
      · go_wp2_with fail
        go_roundw
        case rel => exact ⟨k + 1, acc, by omega, by go_num, by omega, by have hi := Hi.out; simpa [Hid] using hi, HO.out.ext (by (repeat' (first | exact Ext.refl _ | assumption | apply Ext.alloc | apply Ext.drew | refine Ext.set ?_ (by dsimp only; omega) _ | refine Ext.trans ?_ (by assumption)))), by (repeat' (first | exact Ext.refl _ | assumption | apply Ext.alloc | apply Ext.drew | refine Ext.set ?_ (by dsimp only; omega) _ | refine Ext.trans ?_ (by assumption)))⟩
        case measure => simp [intOf]; omega
    · have : k = n := by omega
      subst this
      have hi := HI.out
      rw [hln.out, List.drop_length, wrongFrom, List.append_nil] at hi
      obtain ⟨A', c', hv, hL⟩ := HO.out.sl
      rw [hi] at hv hL
      have HL := Lib.hid hL
      have Hv := Lib.hid hv
      clear hi hv hL
      go_wp2_with fail
      go_ret
      exact ⟨A', c', by rw [Hv.out]; rfl, HL.out, by (repeat' (first | exact Ext.refl _ | assumption | apply Ext.alloc | apply Ext.drew | refine Ext.set ?_ (by dsimp only; omega) _ | refine Ext.trans ?_ (by assumption)))⟩
end Go.Proofs.Ytmgjjgmadiabfaa
