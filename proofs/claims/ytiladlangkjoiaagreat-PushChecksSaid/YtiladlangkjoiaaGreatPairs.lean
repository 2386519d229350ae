/- The four pairs of ends of two spans, handed out: the program. No condition. -/
import Derived.Test.YtiladlangkjoiaaGreatSpanRoot
import Derived.Test.YtiladlangkjoiaaGreatScopeIn
import Derived.Test.YtiladlangkjoiaaGreatBig
namespace Go.Proofs.YtiladlangkjoiaaGreat
open Go.RowKit Go.Shelf
attribute [local go_sem] Oper.semAt_some

def pairE (p : Int × Int) : Array Value := #[.int .i64 p.1, .int .i64 p.2]
abbrev pairsV (al ah bl bh : Int) : List (Int × Int) := [(al, bl), (al, bh), (ah, bl), (ah, bh)]

set_option maxHeartbeats 1000000 in
theorem spPairs_c (al ah bl bh : Int) (w : World) :
    Calls Tryz.prog 283 #[.agg #[.int .i64 al, .int .i64 ah], .agg #[.int .i64 bl, .int .i64 bh]] w fun e w' => ∃ b, e = .returned (.func (.func 316) #[] #[.pointer (some ⟨b, 0, none⟩)]) ∧ Ext w w' ∧ w.heap.size ≤ b ∧ Blk w' b 308 #[.int .i64 al, .int .i64 ah, .int .i64 bl, .int .i64 bh] := by
  go_enter Tryz.func283, Tryz.ntmps283
  go_wp2_with fail
  go_ret
  exact ⟨_, rfl, by exact ext_by, by omega, Blk.newAt (by simp)⟩

set_option maxRecDepth 100000 in
set_option maxHeartbeats 2000000 in
theorem spPairs_iter (g : Nat) (t : TypeId) (al ah bl bh : Int) (nb : Nat) (w : World) (hB : Blk w g t #[.int .i64 al, .int .i64 ah, .int .i64 bl, .int .i64 bh]) :
    IterOf Tryz.prog 316 #[.pointer (some ⟨g, 0, none⟩)] pairE nb [g] (pairsV al ah bl bh) w := by
  intro n l J Jx W hW hJ hJx hY h0
  have hBW := hB.ext hW
  have hY' : ∀ (pre : List { x // x ∈ pairsV al ah bl bh }) (x : { x // x ∈ pairsV al ah bl bh }) W1, J pre W1 → pre.length < 4 → YieldAt Fence.wide (n - 1) Tryz.prog l #[.int .i64 x.1.1, .int .i64 x.1.2] W1 fun e W' =>
      (e = .returned (.bool true) ∧ J (pre ++ [x]) W' ∧ KpX nb [g] W1 W') ∨ (e = .returned (.bool false) ∧ Jx (pre ++ [x]) W') := fun pre x W1 h1 h2 => hY pre x W1 h1 h2
  have HY := Lib.hid hY'
  clear hY hY' hB
  refine callsIn_of_wp Tryz.func316 rfl trivial ?_
  simp only [Tryz.ntmps316, List.size_toArray, List.length_cons, List.length_nil, Nat.reduceAdd, Nat.reduceSub, Array.replicate_succ, Array.replicate_zero, List.push_toArray, List.append_toArray, List.nil_append, List.cons_append]
  have hc := hBW.cell
  have hl := hBW.lt
  have HB := Lib.hid hBW
  have H0 := Lib.hid h0
  clear hBW h0
  gi_wp2
  gi_loopw [9] (fun i wr => ∃ (k : Nat) (pre : List { x // x ∈ pairsV al ah bl bh }), k ≤ 2 ∧ i = .int .i64 k ∧ Hid (pre.map Subtype.val = (pairsV al ah bl bh).take (2 * k)) ∧ Hid (J pre wr) ∧ Hid (Blk wr g t #[.int .i64 al, .int .i64 ah, .int .i64 bl, .int .i64 bh])) (fun i _ => 2 - (intOf i).toNat)
  case atStart => exact ⟨0, [], Nat.zero_le _, rfl, rfl, H0.out, HB.out⟩
  case round =>
    obtain ⟨k, pre, hk, rfl, HP, HJ1, HB1⟩ := hrel
    have hc1 := HB1.out.cell
    have hl1 := HB1.out.lt
    by_cases hk2 : k < 2
    · obtain ⟨X, hX⟩ : ∃ X, (k = 0 ∧ X = al) ∨ (k = 1 ∧ X = ah) := by
        by_cases h : k = 0
        · exact ⟨al, .inl ⟨h, rfl⟩⟩
        · exact ⟨ah, .inr ⟨by omega, rfl⟩⟩
      have ixk : ∀ W, (Instr.index 307 (.agg #[.int .i64 al, .int .i64 ah]) (.int .i64 (k : Int))).run Tryz.prog W = .ok (.int .i64 X) W := by
        rcases hX with ⟨rfl, rfl⟩ | ⟨rfl, rfl⟩ <;> intro W <;> kernel_rfl
      have HX := Lib.hid hX
      have hkb : decide ((k : Int) < 2) = true := by simp; omega
      clear hX
      gi_wp2
      gi_loopw [14] (fun j wr => ∃ (m : Nat) (pr : List { x // x ∈ pairsV al ah bl bh }), m ≤ 2 ∧ j = .int .i64 m ∧ Hid (pr.map Subtype.val = (pairsV al ah bl bh).take (2 * k + m)) ∧ Hid (J pr wr) ∧ Hid (Blk wr g t #[.int .i64 al, .int .i64 ah, .int .i64 bl, .int .i64 bh])) (fun j _ => 2 - (intOf j).toNat)
      case atStart => exact ⟨0, pre, Nat.zero_le _, rfl, HP.out, HJ1.out, HB1.out⟩
      case round =>
        obtain ⟨m, pr, hm, rfl, HP2, HJ2, HB2⟩ := hrel
        have hc2 := HB2.out.cell
        have hl2 := HB2.out.lt
        by_cases hm2 : m < 2
        · obtain ⟨Y, hYy⟩ : ∃ Y, (m = 0 ∧ Y = bl) ∨ (m = 1 ∧ Y = bh) := by
            by_cases h : m = 0
            · exact ⟨bl, .inl ⟨h, rfl⟩⟩
            · exact ⟨bh, .inr ⟨by omega, rfl⟩⟩
          have iym : ∀ W, (Instr.index 307 (.agg #[.int .i64 bl, .int .i64 bh]) (.int .i64 (m : Int))).run Tryz.prog W = .ok (.int .i64 Y) W := by
            rcases hYy with ⟨rfl, rfl⟩ | ⟨rfl, rfl⟩ <;> intro W <;> kernel_rfl
          have hmem : (X, Y) ∈ pairsV al ah bl bh := by
            rcases HX.out with ⟨_, rfl⟩ | ⟨_, rfl⟩ <;> rcases hYy with ⟨_, rfl⟩ | ⟨_, rfl⟩ <;> simp [pairsV]
          have hstep : (pairsV al ah bl bh).take (2 * k + (m + 1)) = (pairsV al ah bl bh).take (2 * k + m) ++ [(X, Y)] := by
            rcases HX.out with ⟨rfl, rfl⟩ | ⟨rfl, rfl⟩ <;> rcases hYy with ⟨rfl, rfl⟩ | ⟨rfl, rfl⟩ <;> rfl
          have Hstep := Lib.hid hstep
          clear hstep hYy
          obtain ⟨fn, tmps, assign, body, hy, hR⟩ := HY.out pr ⟨(X, Y), hmem⟩ wr HJ2.out (by have h3 := congrArg List.length HP2.out; rw [List.length_map, List.length_take] at h3; omega)
          dsimp only at hy
          gi_wp2
          refine ⟨fun h => (by cases h), hR.mono ?_⟩
          rintro e W3 (⟨rfl, hJ3, hk3⟩ | ⟨rfl, hJx3⟩)
          · have HB3 := Lib.hid (hk3.2 g (by simp) _ _ HB2.out)
            have HJ3 := Lib.hid hJ3
            clear hk3 hJ3
            gi_wp2
            go_roundw
            case rel => exact ⟨m + 1, pr ++ [⟨(X, Y), hmem⟩], by omega, by go_num, Lib.hid (by rw [List.map_append, HP2.out, Hstep.out]; rfl), HJ3, HB3⟩
            case measure => simp [intOf]; omega
          · gi_wp2
            refine bodyPost_ret (results_none rfl _ _ _) rfl ?_
            exact ⟨⟨_, rfl⟩, .inr ⟨pr ++ [⟨(X, Y), hmem⟩], by rw [List.map_append, HP2.out]; exact (Hstep.out ▸ List.take_prefix (2 * k + (m + 1)) (pairsV al ah bl bh)), hJx3⟩⟩
        · obtain rfl : m = 2 := by omega
          gi_wp2
          go_roundw
          case rel => exact ⟨k + 1, pr, by omega, by go_num, HP2.out, HJ2.out, HB2.out⟩
          case measure => simp [intOf]; omega
    · obtain rfl : k = 2 := by omega
      gi_wp2
      go_end0
      exact ⟨⟨_, rfl⟩, .inl ⟨pre, HP.out, HJ1.out⟩⟩
end Go.Proofs.YtiladlangkjoiaaGreat
