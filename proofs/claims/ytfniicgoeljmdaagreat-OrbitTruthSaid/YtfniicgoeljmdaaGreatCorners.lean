/- The corners of an area, handed out: the program. No condition. -/
import Derived.Test.YtfniicgoeljmdaaGreatTold
import Derived.Test.YtfniicgoeljmdaaGreatAgree
namespace Go.Proofs.YtfniicgoeljmdaaGreat
open Go.RowKit Go.Shelf
attribute [local go_sem] Oper.semAt_some

def vecE (p : Vec) : Array Value := #[.agg #[.int .i64 p.x, .int .i64 p.y]]
def cornersL (xl xh yl yh : Int) : List Vec := [⟨xl, yl⟩, ⟨xl, yh⟩, ⟨xh, yl⟩, ⟨xh, yh⟩]

set_option maxHeartbeats 400000 in
theorem corners_c (xl xh yl yh : Int) (w : World) :
    Calls Tryz.prog 175 #[.agg #[.int .i64 xl, .int .i64 xh, .int .i64 yl, .int .i64 yh]] w fun e w' => e = .returned (.func (.func 216) #[] #[.pointer (some ⟨w.heap.size, 0, none⟩)]) ∧ w' = w.alloc (.cells #[.int .i64 xl, .int .i64 xh, .int .i64 yl, .int .i64 yh] 112) := by
  go_enter Tryz.func175, Tryz.ntmps175
  go_wp2_with fail
  go_ret
  exact ⟨rfl, rfl⟩

set_option maxRecDepth 100000 in
set_option maxHeartbeats 2000000 in
theorem corners_iter (g : Nat) (t : TypeId) (xl xh yl yh : Int) (nb : Nat) (w : World) (hB : Blk w g t #[.int .i64 xl, .int .i64 xh, .int .i64 yl, .int .i64 yh]) :
    IterOf Tryz.prog 216 #[.pointer (some ⟨g, 0, none⟩)] vecE nb [g] (cornersL xl xh yl yh) w := by
  intro n l J Jx W hW hJ hJx hY h0
  have hBW := hB.ext hW
  have hY' : ∀ (pre : List { x // x ∈ cornersL xl xh yl yh }) (x : { x // x ∈ cornersL xl xh yl yh }) W1, J pre W1 → pre.length < 4 → YieldAt Fence.wide (n - 1) Tryz.prog l #[.agg #[.int .i64 x.1.x, .int .i64 x.1.y]] W1 fun e W' =>
      (e = .returned (.bool true) ∧ J (pre ++ [x]) W' ∧ KpX nb [g] W1 W') ∨ (e = .returned (.bool false) ∧ Jx (pre ++ [x]) W') := fun pre x W1 h1 h2 => hY pre x W1 h1 h2
  have HY := Lib.hid hY'
  clear hY hY' hB
  refine callsIn_of_wp Tryz.func216 rfl trivial ?_
  simp only [Tryz.ntmps216, List.size_toArray, List.length_cons, List.length_nil, Nat.reduceAdd, Nat.reduceSub, Array.replicate_succ, Array.replicate_zero, List.push_toArray, List.append_toArray, List.nil_append, List.cons_append]
  have hc := hBW.cell
  have hl := hBW.lt
  have HB := Lib.hid hBW
  have H0 := Lib.hid h0
  clear hBW h0
  gi_wp2
  gi_loopw [14] (fun i wr => ∃ (k : Nat) (pre : List { x // x ∈ cornersL xl xh yl yh }), k ≤ 2 ∧ i = .int .i64 k ∧ Hid (pre.map Subtype.val = (cornersL xl xh yl yh).take (2 * k)) ∧ Hid (J pre wr) ∧ Hid (Blk wr g t #[.int .i64 xl, .int .i64 xh, .int .i64 yl, .int .i64 yh])) (fun i _ => 2 - (intOf i).toNat)
  case atStart => exact ⟨0, [], Nat.zero_le _, rfl, rfl, H0.out, HB.out⟩
  case round =>
    obtain ⟨k, pre, hk, rfl, HP, HJ1, HB1⟩ := hrel
    have hc1 := HB1.out.cell
    have hl1 := HB1.out.lt
    by_cases hk2 : k < 2
    · obtain ⟨X, hX⟩ : ∃ X, (k = 0 ∧ X = xl) ∨ (k = 1 ∧ X = xh) := by
        by_cases h : k = 0
        · exact ⟨xl, .inl ⟨h, rfl⟩⟩
        · exact ⟨xh, .inr ⟨by omega, rfl⟩⟩
      have ixk : ∀ W, (Instr.index 239 (.agg #[.int .i64 xl, .int .i64 xh]) (.int .i64 (k : Int))).run Tryz.prog W = .ok (.int .i64 X) W := by
        rcases hX with ⟨rfl, rfl⟩ | ⟨rfl, rfl⟩ <;> intro W <;> kernel_rfl
      have HX := Lib.hid hX
      have hkb : decide ((k : Int) < 2) = true := by simp; omega
      clear hX
      gi_wp2
      gi_loopw [24] (fun j wr => ∃ (m : Nat) (pr : List { x // x ∈ cornersL xl xh yl yh }), m ≤ 2 ∧ j = .int .i64 m ∧ Hid (pr.map Subtype.val = (cornersL xl xh yl yh).take (2 * k + m)) ∧ Hid (J pr wr) ∧ Hid (Blk wr g t #[.int .i64 xl, .int .i64 xh, .int .i64 yl, .int .i64 yh])) (fun j _ => 2 - (intOf j).toNat)
      case atStart => exact ⟨0, pre, Nat.zero_le _, rfl, HP.out, HJ1.out, HB1.out⟩
      case round =>
        obtain ⟨m, pr, hm, rfl, HP2, HJ2, HB2⟩ := hrel
        have hc2 := HB2.out.cell
        have hl2 := HB2.out.lt
        by_cases hm2 : m < 2
        · obtain ⟨Y, hYy⟩ : ∃ Y, (m = 0 ∧ Y = yl) ∨ (m = 1 ∧ Y = yh) := by
            by_cases h : m = 0
            · exact ⟨yl, .inl ⟨h, rfl⟩⟩
            · exact ⟨yh, .inr ⟨by omega, rfl⟩⟩
          have iym : ∀ W, (Instr.index 239 (.agg #[.int .i64 yl, .int .i64 yh]) (.int .i64 (m : Int))).run Tryz.prog W = .ok (.int .i64 Y) W := by
            rcases hYy with ⟨rfl, rfl⟩ | ⟨rfl, rfl⟩ <;> intro W <;> kernel_rfl
          have hmem : (⟨X, Y⟩ : Vec) ∈ cornersL xl xh yl yh := by
            rcases HX.out with ⟨_, rfl⟩ | ⟨_, rfl⟩ <;> rcases hYy with ⟨_, rfl⟩ | ⟨_, rfl⟩ <;> simp [cornersL]
          have hstep : (cornersL xl xh yl yh).take (2 * k + (m + 1)) = (cornersL xl xh yl yh).take (2 * k + m) ++ [⟨X, Y⟩] := by
            rcases HX.out with ⟨rfl, rfl⟩ | ⟨rfl, rfl⟩ <;> rcases hYy with ⟨rfl, rfl⟩ | ⟨rfl, rfl⟩ <;> rfl
          have Hstep := Lib.hid hstep
          clear hstep hYy
          obtain ⟨fn, tmps, assign, body, hy, hR⟩ := HY.out pr ⟨⟨X, Y⟩, hmem⟩ wr HJ2.out (by have h3 := congrArg List.length HP2.out; rw [List.length_map, List.length_take] at h3; omega)
          dsimp only at hy
          gi_wp2
          refine ⟨fun h => (by cases h), hR.mono ?_⟩
          rintro e W3 (⟨rfl, hJ3, hk3⟩ | ⟨rfl, hJx3⟩)
          · have HB3 := Lib.hid (hk3.2 g (by simp) _ _ HB2.out)
            have HJ3 := Lib.hid hJ3
            clear hk3 hJ3
            gi_wp2
            go_roundw
            case rel => exact ⟨m + 1, pr ++ [⟨⟨X, Y⟩, hmem⟩], by omega, by go_num, Lib.hid (by rw [List.map_append, HP2.out, Hstep.out]; rfl), HJ3, HB3⟩
            case measure => simp [intOf]; omega
          · gi_wp2
            refine bodyPost_ret (results_none rfl _ _ _) rfl ?_
            exact ⟨⟨_, rfl⟩, .inr ⟨pr ++ [⟨⟨X, Y⟩, hmem⟩], by rw [List.map_append, HP2.out]; exact (Hstep.out ▸ List.take_prefix (2 * k + (m + 1)) (cornersL xl xh yl yh)), hJx3⟩⟩
        · obtain rfl : m = 2 := by omega
          gi_wp2
          go_roundw
          case rel => exact ⟨k + 1, pr, by omega, by go_num, HP2.out, HJ2.out, HB2.out⟩
          case measure => simp [intOf]; omega
    · obtain rfl : k = 2 := by omega
      gi_wp2
      go_end0
      exact ⟨⟨_, rfl⟩, .inl ⟨pre, HP.out, HJ1.out⟩⟩
end Go.Proofs.YtfniicgoeljmdaaGreat
