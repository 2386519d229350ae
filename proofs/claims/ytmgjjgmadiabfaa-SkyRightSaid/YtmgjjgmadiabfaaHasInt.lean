/- Whether a number is in a list. No condition. -/
import Derived.Test.YtmgjjgmadiabfaaOwnInts
namespace Go.Proofs.Ytmgjjgmadiabfaa
open Go.RowKit

set_option maxRecDepth 4000 in
set_option maxHeartbeats 1000000 in
theorem HasInt_c (A : Option Addr) (n c : Nat) (l : List Int) (v : Int) (w : World) (hl : Ints w A n l) :
    Calls Try.prog 48 #[.slice A n c, .int .i64 v] w fun e w' => e = .returned (.bool (l.any fun x => x == v)) ∧ Ext w w' := by
  have hn := hl.le
  have hln := Lib.hid hl.len
  go_enter Try.func48, Try.ntmps48
  go_wp2_with fail
  go_loopw [5] (fun i wr => ∃ k : Nat, k ≤ n ∧ i = .int .i64 k ∧ Hid (((l.drop k).any fun x => x == v) = l.any fun x => x == v) ∧ Ext w wr) (fun i _ => n - (intOf i).toNat)
  case atStart => exact ⟨0, Nat.zero_le _, rfl, rfl, Ext.refl _⟩
  case round =>
    obtain ⟨k, hk, rfl, HI, hb⟩ := hrel
    obtain ⟨hcb, hfb, hzb⟩ := bcell hb
    by_cases hlt : k < n
    · obtain ⟨b, off, x, rfl, HD, hxm, hx⟩ := hl.one hlt
      have hx := hb.cell hx
      simp only [Nat.mul_one] at hx
      have hbl : b < wr.heap.size := World.block_lt_of_cell? wr _ hx
      by_cases hxv : x = v
      · subst hxv
        go_wp2_with fail
        go_ret
        refine ⟨ret_b ?_, hb⟩
        have := HI.out
        rw [HD.out] at this
        rw [← this]; simp
      · go_wp2_with fail
        go_roundw
        case rel =>
          refine ⟨k + 1, by omega, by go_num, ?_, hb⟩
          have := HI.out
          rw [HD.out] at this
          rw [← this]
          simp [Hid, hxv]
        case measure => simp [intOf]; omega
    · have hkn : k = n := by omega
      subst hkn
      go_wp2_with fail
      go_ret
      refine ⟨ret_b ?_, hb⟩
      have := HI.out
      rw [hln.out, List.drop_length] at this
      rw [← this]; rfl
end Go.Proofs.Ytmgjjgmadiabfaa
