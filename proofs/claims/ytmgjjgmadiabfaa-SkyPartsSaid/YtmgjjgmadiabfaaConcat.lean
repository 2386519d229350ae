/- Tracklets one behind the other. No condition. -/
import Derived.Test.YtmgjjgmadiabfaaBelieves
import Derived.Lib.AppendZeros
namespace Go.Proofs.Ytmgjjgmadiabfaa
open Go.RowKit

set_option maxRecDepth 4000 in
set_option maxHeartbeats 1000000 in
theorem Grow_c (k : Nat) (w : World) (h0 : 0 < k) (hk : k ≤ 1000) :
    Calls Try.prog 122 #[.slice none 0 0, .int .i64 k] w fun e w' => ∃ v, e = .returned v ∧ w'.ownsRow w.heap.size 32 9 v 0 [] ∧ Ext w w' := by
  obtain ⟨is_, his, hs0, hs1, hs2⟩ := info_parts info_sight
  have hr := fun W => Lib.run_append_nil_zeros (P := Try.prog) W 51 3 51 32 is_ _ .i64 .i64 Try.underlying51 Try.underlying3 his hs0 k h0 (by omega) (by omega) (by rw [hs2]; omega)
  have HR := Lib.hid hr
  have hge := grownCap_ge w k 0 32
  have hle := grownCap_le_maxLen w k 0 32 (by unfold maxLen; omega)
  have hM : maxLen = 9223372036854775807 := rfl
  rw [hM] at hle
  clear hr hM
  go_enter Try.func122, Try.ntmps122
  go_wp2_with (at_builtin; go_loud (refine Lib.wpList_append_run _ rfl (.tmp 20) (.tmp 21) _ _ rfl _ _ rfl rfl _ _ (HR.out _) ?_))
  go_ret
  refine ⟨_, rfl, own_ext_keep (World.ownsRow_made _ _ _ (Nat.le_refl _) (by unfold maxLen; omega) ?_) (Ext.drew (Ext.refl _)), by (repeat' (first | exact Ext.refl _ | assumption | apply Ext.alloc | apply Ext.drew | refine Ext.set ?_ (by dsimp only; omega) _ | refine Ext.trans ?_ (by assumption)))⟩
  rw [Array.size_append, size_zeroCells, size_zeroCells]
  show k * 9 + (grownCap w k 0 32 - k) * 9 = grownCap w k 0 32 * 9
  omega

def catN (L : List (List Sight)) (k : Nat) : Nat := (L.take k).flatten.length
theorem cat_len2 {L : List (List Sight)} {k : Nat} {x : List Sight} (h : L.drop k = x :: L.drop (k + 1)) : (L.take k).flatten.length + x.length + (L.drop (k + 1)).flatten.length = L.flatten.length := by
  have h1 : L.flatten = (L.take k).flatten ++ (L.drop k).flatten := by rw [← List.flatten_append, List.take_append_drop]
  rw [h1, h, List.length_append, List.flatten_cons, List.length_append]; omega

set_option maxRecDepth 4000 in
set_option maxHeartbeats 1000000 in
theorem Concat_c (A : Option Addr) (n c : Nat) (L : List (List Sight)) (w : World) (hl : Trks w A n L) (h0 : 0 < L.flatten.length) (h1 : L.flatten.length ≤ 1000) :
    Calls Try.prog 105 #[.slice A n c] w fun e w' => ∃ A' c', e = .returned (.slice A' L.flatten.length c') ∧ Sights w' A' L.flatten.length L.flatten ∧ Ext w w' := by
  have hn := hl.le
  have hln := Lib.hid hl.len
  obtain ⟨is_, his, hs0, hs1, hs2⟩ := info_parts info_sight
  obtain ⟨T, hT⟩ : ∃ T, T = L.flatten.length := ⟨_, rfl⟩
  rw [← hT] at h0 h1 ⊢
  have HT := Lib.hid hT
  clear hT
  go_enter Try.func105, Try.ntmps105
  go_wp2_with fail
  go_loopw [3, 11] (fun s i wr => ∃ k : Nat, k ≤ n ∧ i = .int .i64 k ∧ s = .int .i64 (catN L k) ∧ Ext w wr) (fun _ i _ => n - (intOf i).toNat)
  case atStart => exact ⟨0, Nat.zero_le _, rfl, rfl, Ext.refl _⟩
  case round =>
    obtain ⟨k, hk, rfl, rfl, hb⟩ := hrel
    obtain ⟨hcb, hfb, hzb⟩ := bcell hb
    by_cases hlt : k < n
    · obtain ⟨b, off, x, rfl, HD, hxm, A', n', c', hx, hx2⟩ := hl.one hlt
      have hx := hb.cell hx
      simp only [Nat.mul_one] at hx
      have hbl : b < wr.heap.size := World.block_lt_of_cell? wr _ hx
      have hlen := hx2.len
      have hsum := cat_len2 HD.out
      have hts : catN L (k + 1) = catN L k + n' := by rw [catN, catN, take_snoc HD.out, List.flatten_append, List.length_append, hlen]; simp
      rw [← HT.out, ← catN] at hsum
      have Hts := Lib.hid hts
      generalize catN L k = S at *
      have hS : S + n' ≤ 1000 := by omega
      clear hts hsum hx2 hlen
      go_wp2_with fail
      go_roundw
      case rel => exact ⟨k + 1, by omega, by go_num, by rw [Hts.out]; go_num, by (repeat' (first | exact Ext.refl _ | assumption | apply Ext.alloc | apply Ext.drew | refine Ext.set ?_ (by dsimp only; omega) _ | refine Ext.trans ?_ (by assumption)))⟩
      case measure => simp [intOf]; omega
    · have : k = n := by omega
      subst this
      have hall : catN L k = T := by rw [catN, hln.out, List.take_length, HT.out]
      have HG := Lib.hid fun W => Grow_c T W h0 h1
      rw [hall]
      clear hall
      go_wp2_with fail
      refine (HG.out _).mono ?_
      rintro e w1 ⟨v, rfl, hown, h2⟩
      obtain ⟨hc1, hf1, hz1⟩ := bcell h2
      have HO := Lib.hid hown
      have e1 : Ext w w1 := by (repeat' (first | exact Ext.refl _ | assumption | apply Ext.alloc | apply Ext.drew | refine Ext.set ?_ (by dsimp only; omega) _ | refine Ext.trans ?_ (by assumption)))
      clear hown
      obtain ⟨wo, rfl⟩ : ∃ wo : World, wo = wr := ⟨_, rfl⟩
      go_wp2_with fail
      go_loopw [6, 27] (fun v i wr => ∃ j : Nat, j ≤ k ∧ i = .int .i64 j ∧ Hid (wr.ownsRow w.heap.size 32 9 v (catN L j) ((L.take j).flatten.flatMap sightC)) ∧ Ext w wr) (fun _ i _ => k - (intOf i).toNat)
      case atStart => exact ⟨0, Nat.zero_le _, rfl, own_mono HO.out hb.size, e1⟩
      case round =>
        obtain ⟨j, hj, rfl, HR, hb2⟩ := hrel
        obtain ⟨hcb2, hfb2, hzb2⟩ := bcell hb2
        by_cases hlt2 : j < k
        · obtain ⟨b, off, x, rfl, HD, hxm, A', n', c', hx, hx2⟩ := hl.one hlt2
          have hx := hb2.cell hx
          simp only [Nat.mul_one] at hx
          have hbl : b < wr.heap.size := World.block_lt_of_cell? wr _ hx
          have hlen := hx2.len
          have hsum := cat_len2 HD.out
          rw [← HT.out, ← hlen, ← catN] at hsum
          have hbd : catN L j + n' ≤ 1000 := by omega
          have Hx2 := Lib.hid (Sights.ext hb2 hx2)
          have Hlen := Lib.hid hlen
          have hn'9 := hx2.le
          clear hsum hx2 hlen
          go_wp2_with (at_builtin; go_loud (refine wpList_append_sl rfl (.tmp 31) (.tmp 32) 51 rfl w.heap.size 32 is_ _ 9 72 Try.underlying51 his hs0 hs1 hs2 rfl (by decide) _ (catN L j) ((L.take j).flatten.flatMap sightC) rfl HR.out A' n' c' (x.flatMap sightC) rfl (by rw [flat_len sight_len, ← Hlen.out]) (sl_news sight_len (sight_news _) Hx2.out) (flat_one sight_one _) (by unfold maxLen; omega) (by omega) (by omega) ?_))
          intro v5 w5 ho5 hg5 hn5
          have e5 : Ext w w5 := own_ext hb2 HR.out hg5 (Nat.le_refl _)
          have HO5 : Hid (w5.ownsRow w.heap.size 32 9 v5 (catN L (j + 1)) ((L.take (j + 1)).flatten.flatMap sightC)) := by
            rw [catN, take_snoc HD.out, List.flatten_append, List.length_append, List.flatMap_append]
            have : [x].flatten = x := by simp
            rw [this, ← Hlen.out, ← catN]
            exact ho5
          clear ho5 hg5 hn5
          go_wp2_with fail
          go_roundw
          case rel => exact ⟨j + 1, by omega, by go_num, HO5, e5⟩
          case measure => simp [intOf]; omega
        · have : j = k := by omega
          subst this
          have hR := HR.out
          rw [catN, hln.out, List.take_length] at hR
          obtain ⟨A', c', hv, hS⟩ := own_sl sight_len (sight_read wr) hR
          have Hv := Lib.hid hv
          have HS := Lib.hid hS
          clear hR hv hS
          go_wp2_with fail
          go_ret
          refine ⟨A', c', ?_, ?_, by (repeat' (first | exact Ext.refl _ | assumption | apply Ext.alloc | apply Ext.drew | refine Ext.set ?_ (by dsimp only; omega) _ | refine Ext.trans ?_ (by assumption)))⟩
          · rw [HT.out]
            have := Hv.out
            subst this
            rfl
          · rw [HT.out]; exact HS.out
end Go.Proofs.Ytmgjjgmadiabfaa
