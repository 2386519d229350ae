/- Sets that are filtered: the reference. No condition. Sets that are filtered, split and refined, or which error: the reference. No condition. A set after ticks with sights: the reference. No condition. OrbitUpdates, walked: it returns true. No condition. OrbitUpdates, lifted to what the statement says of a run. No condition. -/
import Derived.Test.YtfniicgoeljmdaaGreatProp
import Derived.Test.YtfniicgoeljmdaaGreatRefExcludes2
import Derived.Test.YtfniicgoeljmdaaGreatRefBox
import Derived.Test.YtfniicgoeljmdaaGreatUpdate
import Derived.Test.YtfniicgoeljmdaaGreatAwakeFour
import Derived.Test.YtfniicgoeljmdaaGreatUpdateAll
import Derived.Test.YtfniicgoeljmdaaGreatRefProp
import Derived.Test.YtfniicgoeljmdaaGreatPackAll
import Derived.Test.YtfniicgoeljmdaaGreatOwnBoxes
import Derived.Test.YtfniicgoeljmdaaGreatOpen3
namespace Go.Proofs.YtfniicgoeljmdaaGreat
open Go.RowKit

set_option maxRecDepth 20000 in
set_option maxHeartbeats 4000000 in
theorem rFilterL_c (A1 : Option Addr) (n1 c1 : Nat) (home : Int) (A2 : Option Addr) (n2 c2 : Nat) (A3 : Option Addr) (n3 c3 : Nat) (s : Sky) (tick : Int) (A : Option Addr) (n c : Nat) (l : List Bx) (B : Option Addr) (m d : Nat) (r : List Sight) (w : World) (hs : IsSky w A1 n1 home A2 n2 A3 n3 s) (hl : Bxs w A n l) (hr : Sights w B m r) (hn : n ≤ 2000) :
    Calls Tryz.prog 107 #[.agg #[.slice A1 n1 c1, .int .i64 home, .slice A2 n2 c2, .slice A3 n3 c3], .int .i64 tick, .slice A n c, .slice B m d] w fun e w' => ∃ v, e = .returned v ∧ OwnBxs w.heap.size w' v (filtL s tick r l) ∧ Ext w w' := by
  have hm := hr.le
  have HX := Lib.hid fun (x : Sight) (xl xh yl yh : Int) W (hW : Ext w W) => refExcludes_c A1 n1 c1 home A2 n2 c2 A3 n3 c3 s x.kind x.station x.catalog x.tick x.dx x.dy x.err x.lo x.hi xl xh yl yh W (hs.ext hW)
  have HLn := Lib.hid hl.len
  have HRn := Lib.hid hr.len
  have HL := Lib.hid fun W (hW : Ext w W) => Bxs.ext hW hl
  have HR := Lib.hid fun W (hW : Ext w W) => Sights.ext hW hr
  obtain ⟨ic, hic, hc0, hc1, hc2⟩ := info_parts info_box
  obtain ⟨T, hT⟩ : ∃ T, filtL s tick r l = T := ⟨_, rfl⟩
  have hTl : T.length ≤ 2000 := by
    have h1 : T.length ≤ l.length := by rw [← hT]; exact List.length_filter_le _ _
    have := hl.len
    omega
  have HT := Lib.hid hT
  rw [hT]
  clear hs hl hr hT
  go_enter Tryz.func107, Tryz.ntmps107
  go_wp2_with fail
  go_loopw [9, 10] (fun o i wr => ∃ (k : Nat) (acc : List Bx), k ≤ n ∧ i = .int .i64 k ∧ Hid (acc ++ filtL s tick r (l.drop k) = T) ∧ Hid (OwnBxs w.heap.size wr o acc) ∧ Hid (Blk wr w.heap.size 53 #[.slice A1 n1 c1, .int .i64 home, .slice A2 n2 c2, .slice A3 n3 c3]) ∧ Ext w wr) (fun _ i _ => n - (intOf i).toNat)
  case atStart => exact ⟨0, [], Nat.zero_le _, rfl, HT, OwnBxs.nil _ _, Blk.new _ _ _, Ext.alloc0 _ _⟩
  case round =>
    clear HT
    obtain ⟨k, acc, hk, rfl, HI, HO, B4, E⟩ := hrel
    have hz := E.size
    by_cases hlt : k < n
    · obtain ⟨b, off, x, rfl, HD, _, hx⟩ := (HL.out wr E).one hlt
      have hi := HI.out
      have hlen := congrArg List.length hi
      rw [List.length_append] at hlen
      rw [HD.out, filtL, List.filter_cons] at hi
      have HBX := Lib.hid hx
      clear HI HD hx
      obtain ⟨wo, rfl⟩ : ∃ wo : World, wo = wr := ⟨_, rfl⟩
      obtain ⟨R, hR⟩ : ∃ R, filtB s tick r x = R := ⟨_, rfl⟩
      rw [hR] at hi
      have HRR := Lib.hid hR
      have Hi := Lib.hid hi
      have c4 := B4.out.cell
      have l4 := B4.out.lt
      clear hi hR
      go_wp2_with fail
      go_loopw [11, 12] (fun ex kv wr => ∃ (j : Nat) (f : Bool), j ≤ m ∧ ex = .bool f ∧ kv = .int .i64 j ∧ Hid ((f || (r.drop j).any (hitB s tick x)) = R) ∧ Ext wo wr) (fun _ kv _ => m - (intOf kv).toNat)
      case atStart => exact ⟨0, false, Nat.zero_le _, rfl, rfl, Lib.hid (by simpa [filtB] using HRR.out), Ext.refl _⟩
      case round =>
        clear HRR
        obtain ⟨j, f, hj, rfl, rfl, HJ, hb⟩ := hrel
        have E2 := E.trans hb
        by_cases hjm : j < m
        · obtain ⟨b2, off2, y, rfl, HD2, _, hy⟩ := (HR.out wr E2).one hjm
          obtain ⟨hx0, hx1, hx2, hx3, hx4, hx5, hx6, hx7⟩ := bxAt.ext hb HBX.out
          obtain ⟨hy0, hy1, hy2, hy3, hy4, hy5, hy6, hy7, hy8⟩ := hy
          have hbl : b < wr.heap.size := World.block_lt_of_cell? wr _ hx0
          have hbl2 : b2 < wr.heap.size := World.block_lt_of_cell? wr _ hy0
          have hj2 := HJ.out
          rw [HD2.out, List.any_cons] at hj2
          have HXX := Lib.hid fun W (hW : Ext w W) => HX.out y x.x.lo x.x.hi x.y.lo x.y.hi W hW
          change Hid (∀ W, Ext w W → Calls _ _ _ W fun e w' => e = .returned (.bool (exclAll s y x.x.lo x.x.hi x.y.lo x.y.hi)) ∧ _) at HXX
          rw [show hitB s tick x y = (decide (y.tick = tick) && exclAll s y x.x.lo x.x.hi x.y.lo x.y.hi) from rfl] at hj2
          clear HJ HD2
          cases f
          · by_cases hq : y.tick = tick
            · have hj3 : Hid ((exclAll s y x.x.lo x.x.hi x.y.lo x.y.hi || (r.drop (j + 1)).any (hitB s tick x)) = R) := by
                rw [decide_eq_true hq, Bool.true_and, Bool.false_or] at hj2
                exact hj2
              generalize exclAll s y x.x.lo x.x.hi x.y.lo x.y.hi = G at *
              clear hj2 HBX
              obtain ⟨kind, st, cat, tk, dx, dy, er, lo, hi'⟩ := y
              obtain ⟨⟨xl, xh⟩, ⟨yl, yh⟩, ⟨ul, uh⟩, vl, vh⟩ := x
              dsimp only at *
              subst hq
              have hs4 : wr.cell? ⟨w.heap.size, 0, none⟩ = some (.slice A1 n1 c1) ∧ wr.cell? ⟨w.heap.size, 1, none⟩ = some (.int .i64 home) ∧ wr.cell? ⟨w.heap.size, 2, none⟩ = some (.slice A2 n2 c2) ∧ wr.cell? ⟨w.heap.size, 3, none⟩ = some (.slice A3 n3 c3) := by
                have h := (B4.out.ext hb).cell
                exact ⟨h 0, h 1, h 2, h 3⟩
              obtain ⟨s0, s1, s2, s3⟩ := hs4
              have l5 : w.heap.size < wr.heap.size := Nat.lt_of_lt_of_le l4 hb.size
              clear c4 l4
              go_wp2_with fail
              refine wp_region_text (by kernel_rfl) (by kernel_rfl) ?_
              (repeat' (first | (refine bl_off (by rfl) ?_; simp only [putX]) | (apply bl_op; rfl; (intro w1 h1; obtain ⟨hc, hf, hz⟩ := bcell h1; go_simp; (try go_bits); (first | exact ⟨rfl, Ext.refl _⟩ | (apply gives_call; go_at_call 142; exact HXX.out _ ext_by) | (go_invoke; go_simp; apply gives_call; go_at_call 142; exact HXX.out _ ext_by))); simp only [putX]) | (refine bl_split rfl rfl (fun hx => ?_) (fun hx => ?_) <;> simp only [hx])))
              refine bl_nil ?_
              intro w9 h9
              obtain ⟨hc_w9, hf_w9, hz_w9⟩ := bcell h9; (try simp only [szA] at hz_w9); (try have := wz0 w w9); (try have := wz1 w w9); (try have := wz2 w w9); (try have := wz3 w w9); (try have := wz4 w w9)
              go_wp2_with fail
              go_roundw
              case rel => exact ⟨j + 1, G, by omega, rfl, by go_num, hj3, hb.trans h9⟩
              case measure => simp [intOf]; omega
            · have hd : decide (y.tick = tick) = false := by simpa using hq
              have hj3 : Hid ((false || (r.drop (j + 1)).any (hitB s tick x)) = R) := by
                rw [hd, Bool.false_and, Bool.false_or] at hj2
                exact hj2
              have hd2 : (y.tick == tick) = false := by simpa using hq
              clear hj2 HXX HBX
              obtain ⟨kind, st, cat, tk, dx, dy, er, lo, hi'⟩ := y
              obtain ⟨⟨xl, xh⟩, ⟨yl, yh⟩, ⟨ul, uh⟩, vl, vh⟩ := x
              dsimp only at *
              go_wp2_with fail
              refine wp_region_text (by kernel_rfl) (by kernel_rfl) ?_
              (repeat' (first | (refine bl_off (by rfl) ?_; simp only [putX]) | (apply bl_op; rfl; (intro w1 h1; obtain ⟨hc, hf, hz⟩ := bcell h1; go_simp; (try go_bits); (first | exact ⟨rfl, Ext.refl _⟩)); simp only [putX]) | (refine bl_split rfl rfl (fun hx => ?_) (fun hx => ?_) <;> simp only [hx])))
              refine bl_nil ?_
              intro w9 h9
              obtain ⟨hc_w9, hf_w9, hz_w9⟩ := bcell h9; (try simp only [szA] at hz_w9); (try have := wz0 w w9); (try have := wz1 w w9); (try have := wz2 w w9); (try have := wz3 w w9); (try have := wz4 w w9)
              go_wp2_with fail
              go_roundw
              case rel => exact ⟨j + 1, false, by omega, rfl, by go_num, hj3, hb.trans h9⟩
              case measure => simp [intOf]; omega
          · have hj3 : Hid ((true || (r.drop (j + 1)).any (hitB s tick x)) = R) := by simpa [Hid] using hj2
            clear hj2 HXX HBX
            obtain ⟨kind, st, cat, tk, dx, dy, er, lo, hi'⟩ := y
            obtain ⟨⟨xl, xh⟩, ⟨yl, yh⟩, ⟨ul, uh⟩, vl, vh⟩ := x
            dsimp only at *
            go_wp2_with fail
            refine wp_region_text (by kernel_rfl) (by kernel_rfl) ?_
            (repeat' (first | (refine bl_off (by rfl) ?_; simp only [putX]) | (apply bl_op; rfl; (intro w1 h1; obtain ⟨hc, hf, hz⟩ := bcell h1; go_simp; (try go_bits); (first | exact ⟨rfl, Ext.refl _⟩)); simp only [putX]) | (refine bl_split rfl rfl (fun hx => ?_) (fun hx => ?_) <;> simp only [hx])))
            refine bl_nil ?_
            intro w9 h9
            obtain ⟨hc_w9, hf_w9, hz_w9⟩ := bcell h9; (try simp only [szA] at hz_w9); (try have := wz0 w w9); (try have := wz1 w w9); (try have := wz2 w w9); (try have := wz3 w w9); (try have := wz4 w w9)
            go_wp2_with fail
            go_roundw
            case rel => exact ⟨j + 1, true, by omega, rfl, by go_num, hj3, hb.trans h9⟩
            case measure => simp [intOf]; omega
        · have hjm' : j = m := by omega
          have hj2 := HJ.out
          rw [hjm', HRn.out, List.drop_length, List.any_nil, Bool.or_false] at hj2
          subst hj2
          obtain ⟨hx0, hx1, hx2, hx3, hx4, hx5, hx6, hx7⟩ := bxAt.ext hb HBX.out
          have hbl : b < wr.heap.size := World.block_lt_of_cell? wr _ hx0
          have B4' := Lib.hid (B4.out.ext hb)
          have HO' := Lib.hid (OwnBxs.ext HO.out hb)
          have hzz := E2.size
          have hi := Hi.out
          clear HJ HBX c4 l4 B4 HO Hi
          obtain ⟨⟨xl, xh⟩, ⟨yl, yh⟩, ⟨ul, uh⟩, vl, vh⟩ := x
          dsimp only at hx0 hx1 hx2 hx3 hx4 hx5 hx6 hx7
          cases f
          · have Hi2 : Hid ((acc ++ [⟨⟨xl, xh⟩, ⟨yl, yh⟩, ⟨ul, uh⟩, vl, vh⟩]) ++ filtL s tick r (l.drop (k + 1)) = T) := by
              rw [if_pos (by decide)] at hi
              rw [List.append_assoc]
              exact hi
            clear hi
            go_wp2_with (at_builtin; go_loud (refine wpList_append_sl rfl (.tmp 56) (.tmp 61) 39 rfl w.heap.size 38 ic _ 8 64 Tryz.underlying39 hic hc0 hc1 hc2 rfl (by decide) _ acc.length (acc.flatMap bxC) rfl (own_ext_keep HO'.out ext_by) (some ⟨_, 0, none⟩) 1 1 [.int .i64 xl, .int .i64 xh, .int .i64 yl, .int .i64 yh, .int .i64 ul, .int .i64 uh, .int .i64 vl, .int .i64 vh] rfl rfl (.inr ⟨_, rfl, new_cells (by simp)⟩) (by simp [Value.oneCell']) (by unfold maxLen; omega) (by omega) (by simp only [World.size_alloc]; omega) ?_))
            intro v' w6 ho6 hg6 _
            have hnb := own_blk (own_ext_keep HO'.out (Ext.alloc0 wr (.cells #[.int .i64 xl, .int .i64 xh, .int .i64 yl, .int .i64 yh, .int .i64 ul, .int .i64 uh, .int .i64 vl, .int .i64 vh] 38))) (B4'.out.alloc _) (by decide)
            have B6 := Lib.hid ((B4'.out.alloc _).grown hg6 hnb)
            obtain ⟨ho, he⟩ := own_app (w0 := w) (OwnBxs.ext HO'.out (Ext.alloc0 wr _)) (E2.alloc _) (Nat.le_refl _) (show 1 = [(⟨⟨xl, xh⟩, ⟨yl, yh⟩, ⟨ul, uh⟩, vl, vh⟩ : Bx)].length from rfl) ho6 hg6
            have HO6 := Lib.hid ho
            clear ho ho6 hg6 HO' hnb
            go_wp2_with fail
            go_roundw
            case rel => exact ⟨k + 1, _, by omega, by go_num, Hi2, HO6, B6, he⟩
            case measure => simp [intOf]; omega
          · have Hi2 : Hid (acc ++ filtL s tick r (l.drop (k + 1)) = T) := by
              rw [if_neg (by decide)] at hi
              exact hi
            clear hi
            go_wp2_with fail
            go_roundw
            case rel => exact ⟨k + 1, _, by omega, by go_num, Hi2, HO', B4', E2⟩
            case measure => simp [intOf]; omega
    · have hkn : k = n := by omega
      subst hkn
      have hi := HI.out
      rw [HLn.out, List.drop_length] at hi
      have Hi : Hid (acc = T) := Lib.hid (by simpa [filtL] using hi)
      clear hi HI HLn
      go_wp2_with fail
      go_ret
      exact ⟨_, rfl, by rw [← Hi.out]; exact HO.out, E⟩
end Go.Proofs.YtfniicgoeljmdaaGreat

namespace Go.Proofs.YtfniicgoeljmdaaGreat
open Go.RowKit

set_option maxRecDepth 4000 in
set_option maxHeartbeats 1000000 in
theorem rCheckSights_c (A1 : Option Addr) (n1 c1 : Nat) (home : Int) (A2 : Option Addr) (n2 c2 : Nat) (A3 : Option Addr) (n3 c3 : Nat) (s : Sky) (A : Option Addr) (n c : Nat) (l : List Sight) (w : World) (hs : IsSky w A1 n1 home A2 n2 A3 n3 s) (hl : Sights w A n l) :
    Calls Tryz.prog 114 #[.agg #[.slice A1 n1 c1, .int .i64 home, .slice A2 n2 c2, .slice A3 n3 c3], .slice A n c] w fun e w' => e = .returned (.int .i64 (sgsErr s l)) ∧ Ext w w' := by
  have hn := hl.le
  have HS := Lib.hid fun (x : Sight) W (hW : Ext w W) => refCheckSight_c A1 n1 c1 home A2 n2 c2 A3 n3 c3 s x.kind x.station x.catalog x.tick x.dx x.dy x.err x.lo x.hi W (hs.ext hW)
  have HLn := Lib.hid hl.len
  have HL := Lib.hid fun W (hW : Ext w W) => Sights.ext hW hl
  obtain ⟨T, hT⟩ : ∃ T, sgsErr s l = T := ⟨_, rfl⟩
  rw [hT]
  unfold sgsErr at hT
  have HG := Lib.hid hT
  clear hT
  clear hs hl
  by_cases h64 : 64 < n
  · have HT : Hid (T = 8) := by have := HG.out; rw [if_pos (by rw [← HLn.out]; exact h64)] at this; exact this.symm
    go_enter Tryz.func114, Tryz.ntmps114
    go_wp2_with fail
    go_ret
    exact ⟨ret_i (by rw [HT.out]), ext_by⟩
  · have HT : Hid (T = sgsFrom s l) := by have := HG.out; rw [if_neg (by rw [← HLn.out]; exact h64)] at this; exact this.symm
    clear HG
    go_enter Tryz.func114, Tryz.ntmps114
    go_wp2_with fail
    go_loopw [5] (fun i wr => ∃ k : Nat, k ≤ n ∧ i = .int .i64 k ∧ Hid (sgsFrom s (l.drop k) = T) ∧ Ext (w.alloc (.cells #[.slice A1 n1 c1, .int .i64 home, .slice A2 n2 c2, .slice A3 n3 c3] 53)) wr) (fun i _ => n - (intOf i).toNat)
    case atStart => exact ⟨0, Nat.zero_le _, rfl, Lib.hid HT.out.symm, Ext.refl _⟩
    case round =>
      obtain ⟨k, hk, rfl, HI, hb⟩ := hrel
      obtain ⟨hcb, hfb, hzb⟩ := bcell hb
      simp only [World.size_alloc] at hzb
      have hz1 : w.heap.size < wr.heap.size := by omega
      have E : Ext w wr := (Ext.alloc0 _ _).trans hb
      by_cases hlt : k < n
      · obtain ⟨b, off, x, rfl, HD, hxm, hx⟩ := (HL.out wr E).one hlt
        have HX := Lib.hid fun W (hW : Ext wr W) => HS.out x W (E.trans hW)
        change Hid (∀ W, Ext wr W → Calls _ _ _ W fun e w' => e = .returned (.int .i64 (sightErr2 s x)) ∧ _) at HX
        obtain ⟨hx0, hx1, hx2, hx3, hx4, hx5, hx6, hx7, hx8⟩ := hx
        have hi := HI.out
        rw [HD.out, sgsFrom] at hi
        clear HI HD hxm
        generalize sightErr2 s x = M at *
        obtain ⟨kind, st, cat, tk, dx, dy, er, lo, hi'⟩ := x
        dsimp only at hx0 hx1 hx2 hx3 hx4 hx5 hx6 hx7 hx8 HX
        have hbl : b < wr.heap.size := World.block_lt_of_cell? wr _ hx0
        by_cases h0 : M = 0
        · subst h0
          rw [if_pos rfl] at hi
          have Hi := Lib.hid hi
          clear hi
          go_wp2_with fail
          refine wp_region_text (by kernel_rfl) (by kernel_rfl) ?_
          (repeat' (first | (refine bl_off (by rfl) ?_; simp only [putX]) | (apply bl_op; rfl; (intro w1 h1; obtain ⟨hc, hf, hz⟩ := bcell h1; go_simp; (try go_bits); (first | exact ⟨rfl, Ext.refl _⟩ | (apply gives_call; go_at_call 148; exact HX.out _ ext_by) | (go_invoke; go_simp; apply gives_call; go_at_call 148; exact HX.out _ ext_by))); simp only [putX]) | (refine bl_split rfl rfl (fun hx => ?_) (fun hx => ?_) <;> simp only [hx])))
          refine bl_nil ?_
          intro w1 h1
          obtain ⟨hc_w1, hf_w1, hz_w1⟩ := bcell h1; (try simp only [szA] at hz_w1); (try have := wz0 w w1); (try have := wz1 w w1); (try have := wz2 w w1); (try have := wz3 w w1); (try have := wz4 w w1)
          go_wp2_with fail
          have E1 : Ext wr w1 := h1
          clear h1
          go_roundw
          case rel => exact ⟨k + 1, by omega, by go_num, Hi, hb.trans E1⟩
          case measure => simp [intOf]; omega
        · rw [if_neg h0] at hi
          have Hi := Lib.hid hi
          clear hi
          go_wp2_with fail
          refine wp_region_text (by kernel_rfl) (by kernel_rfl) ?_
          (repeat' (first | (refine bl_off (by rfl) ?_; simp only [putX]) | (apply bl_op; rfl; (intro w1 h1; obtain ⟨hc, hf, hz⟩ := bcell h1; go_simp; (try go_bits); (first | exact ⟨rfl, Ext.refl _⟩ | (apply gives_call; go_at_call 148; exact HX.out _ ext_by) | (go_invoke; go_simp; apply gives_call; go_at_call 148; exact HX.out _ ext_by))); simp only [putX]) | (refine bl_split rfl rfl (fun hx => ?_) (fun hx => ?_) <;> simp only [hx])))
          refine bl_nil ?_
          intro w1 h1
          obtain ⟨hc_w1, hf_w1, hz_w1⟩ := bcell h1; (try simp only [szA] at hz_w1); (try have := wz0 w w1); (try have := wz1 w w1); (try have := wz2 w w1); (try have := wz3 w w1); (try have := wz4 w w1)
          go_wp2_with fail
          have E1 : Ext wr w1 := h1
          clear h1
          go_ret
          exact ⟨ret_i Hi.out, E.trans E1⟩
      · have hkn : k = n := by omega
        subst hkn
        have hi := HI.out
        rw [HLn.out, List.drop_length] at hi
        have Hi : Hid (0 = T) := hi
        clear hi HI
        go_wp2_with fail
        go_ret
        exact ⟨ret_i Hi.out, E⟩
end Go.Proofs.YtfniicgoeljmdaaGreat

namespace Go.Proofs.YtfniicgoeljmdaaGreat
open Go.RowKit

set_option maxRecDepth 20000 in
set_option maxHeartbeats 4000000 in
theorem rUpd_yes (A1 : Option Addr) (n1 c1 : Nat) (home : Int) (A2 : Option Addr) (n2 c2 : Nat) (A3 : Option Addr) (n3 c3 : Nat) (s : Sky) (d : Drf) (tick : Int) (A : Option Addr) (n c : Nat) (L : List Bx) (N : Nat) (B : Option Addr) (m e : Nat) (sg : List Sight) (w : World) (hs : IsSky w A1 n1 home A2 n2 A3 n3 s) (hl : Bxs w A n L) (hr : Sights w B m sg)
    (h1 : skyErr s = 0) (h2 : driftErr d = 0) (h3 : wayErr tick N L = 0) (h4 : sgsErr s sg = 0) (T : Option (List Bx)) (hT : updM s d sg N tick (filtL s tick sg L) = T) :
    Calls Tryz.prog 55 #[.agg #[.slice A1 n1 c1, .int .i64 home, .slice A2 n2 c2, .slice A3 n3 c3], .agg #[.int .i64 d.light.lo, .int .i64 d.light.hi, .int .i64 d.heat.lo, .int .i64 d.heat.hi, .int .i64 d.gas], .int .i64 tick, .slice A n c, .int .i64 (N : Int), .slice B m e] w fun e' w' =>
      ∃ v, e' = .returned (.tuple #[v, .int .i64 (if T.isSome then 0 else 14)]) ∧ OwnBxs w.heap.size w' v (T.getD []) ∧ Ext w w' := by
  obtain ⟨hk1, hk2, hk3⟩ := way_ok h3
  obtain ⟨hs1, hs2⟩ := set_ok hk3
  have hhome := hs.home
  have HK := Lib.hid fun W (hW : Ext w W) => refCheck_c A1 n1 c1 home A2 n2 c2 A3 n3 c3 s W (hs.ext hW)
  rw [h1] at HK
  have HD := Lib.hid fun W => gCheckDrift_c d.light.lo d.light.hi d.heat.lo d.heat.hi d.gas W
  have hd : (⟨⟨d.light.lo, d.light.hi⟩, ⟨d.heat.lo, d.heat.hi⟩, d.gas⟩ : Drf) = d := rfl
  rw [hd, h2] at HD
  have hsp : decide ((0 ≤ (N : Int) ∧ (N : Int) ≤ 400) ∧ 0 ≤ tick ∧ tick ≤ 1073741824 - (N : Int)) = true := by simp only [decide_eq_true_eq]; exact ⟨hk1, hk2⟩
  have HY := Lib.hid fun W => rSpan_c tick N W
  rw [hsp] at HY
  have HC := Lib.hid fun W (hW : Ext w W) => rCheckSet_c A n c L W (Bxs.ext hW hl)
  rw [hk3] at HC
  have HS := Lib.hid fun W (hW : Ext w W) => rCheckSights_c A1 n1 c1 home A2 n2 c2 A3 n3 c3 s B m e sg W (hs.ext hW) (Sights.ext hW hr)
  rw [h4] at HS
  have HF := Lib.hid fun (t : Int) A' (k c' : Nat) (L' : List Bx) V (hV : Ext w V) (h : Bxs V A' k L') (hk : k ≤ 2000) => rFilterL_c A1 n1 c1 home A2 n2 c2 A3 n3 c3 s t A' k c' L' B m e sg V (hs.ext hV) h (Sights.ext hV hr) hk
  have HA := Lib.hid fun (t : Int) (h2' : 0 ≤ t ∧ t ≤ 1073741824) A' (k c' : Nat) (L' : List Bx) V (hV : Ext w V) (h : Bxs V A' k L') (hk : k ≤ 2000) (hv : ∀ b ∈ L', bxErr b = 0) => rSteps_c A1 n1 c1 s.world.home s.world.bodies d t A' k c' L' V (Bodies.ext hV hs.bodies) (sky_wd h1 h2) h2' h hk hv
  rw [← hhome] at HA
  have HH := Lib.hid hhome
  have HL := Lib.hid fun W (hW : Ext w W) => Bxs.ext hW hl
  have hn5 : n ≤ 512 := by have := hl.len; omega
  have hCl : (filtL s tick sg L).length ≤ 512 := Nat.le_trans (filt_len s tick sg L) hs1
  have HCV := Lib.hid (filt_ok (s := s) (t := tick) (sg := sg) hs2)
  have HT := Lib.hid hT
  obtain ⟨Er, hEr⟩ : ∃ q : Int, (if T.isSome then 0 else 14) = q := ⟨_, rfl⟩
  obtain ⟨TL, hTL⟩ : ∃ q, T.getD [] = q := ⟨_, rfl⟩
  rw [hEr, hTL]
  have HER := Lib.hid hEr
  have HTL := Lib.hid hTL
  obtain ⟨hn1, hn2⟩ := hk1
  obtain ⟨ht1, ht2⟩ := hk2
  obtain ⟨⟨ll, lh⟩, ⟨el, eh⟩, g⟩ := d
  dsimp only at HD HA ⊢
  clear hs hl hr h1 h2 h3 h4 hd hk3 hs1 hs2 hT hEr hTL hsp hhome
  obtain ⟨C0, hC0⟩ : ∃ q, filtL s tick sg L = q := ⟨_, rfl⟩
  rw [hC0] at hCl HCV HT
  have HC0 := Lib.hid hC0
  clear hC0
  go_enter Tryz.func55, Tryz.ntmps55
  go_wp2_with fail
  refine (HK.out _ ext_by).mono ?_
  rintro e1 V1 ⟨rfl, hV1⟩
  have B6 : Blk V1 w.heap.size 53 #[.slice A1 n1 c1, .int .i64 home, .slice A2 n2 c2, .slice A3 n3 c3] := ((Blk.newAt rfl).alloc _).ext hV1
  have B7 : Blk V1 (w.heap.size + 1) 28 #[.int .i64 ll, .int .i64 lh, .int .i64 el, .int .i64 eh, .int .i64 g] := (Blk.newAt (by simp)).ext hV1
  have E : Ext w V1 := ext_by
  clear hV1 HK
  have c_B6 := B6.cell; have f_B6 := B6.frozen; have l_B6 := B6.lt; have c_B7 := B7.cell; have f_B7 := B7.frozen; have l_B7 := B7.lt
  go_wp2_with fail
  refine (HD.out _).mono ?_
  rintro e V2 ⟨rfl, hV2⟩
  clear c_B6 f_B6 l_B6
  replace B6 := B6.ext hV2
  clear c_B7 f_B7 l_B7
  replace B7 := B7.ext hV2
  replace E : Ext w V2 := Ext.trans ext_by hV2
  clear hV2
  have c_B6 := B6.cell; have f_B6 := B6.frozen; have l_B6 := B6.lt; have c_B7 := B7.cell; have f_B7 := B7.frozen; have l_B7 := B7.lt
  go_wp2_with fail
  refine (HY.out _).mono ?_
  rintro e V3 ⟨rfl, hV3⟩
  clear c_B6 f_B6 l_B6
  replace B6 := B6.ext hV3
  clear c_B7 f_B7 l_B7
  replace B7 := B7.ext hV3
  replace E : Ext w V3 := Ext.trans ext_by hV3
  clear hV3
  have c_B6 := B6.cell; have f_B6 := B6.frozen; have l_B6 := B6.lt; have c_B7 := B7.cell; have f_B7 := B7.frozen; have l_B7 := B7.lt
  go_wp2_with fail
  refine (HC.out _ ext_by).mono ?_
  rintro e V4 ⟨rfl, hV4⟩
  clear c_B6 f_B6 l_B6
  replace B6 := B6.ext hV4
  clear c_B7 f_B7 l_B7
  replace B7 := B7.ext hV4
  replace E : Ext w V4 := Ext.trans ext_by hV4
  clear hV4
  have c_B6 := B6.cell; have f_B6 := B6.frozen; have l_B6 := B6.lt; have c_B7 := B7.cell; have f_B7 := B7.frozen; have l_B7 := B7.lt
  go_wp2_with fail
  refine (HS.out _ ext_by).mono ?_
  rintro e V5 ⟨rfl, hV5⟩
  clear c_B6 f_B6 l_B6
  replace B6 := B6.ext hV5
  clear c_B7 f_B7 l_B7
  replace B7 := B7.ext hV5
  replace E : Ext w V5 := Ext.trans ext_by hV5
  clear hV5
  have c_B6 := B6.cell; have f_B6 := B6.frozen; have l_B6 := B6.lt; have c_B7 := B7.cell; have f_B7 := B7.frozen; have l_B7 := B7.lt
  go_wp2_with fail
  refine (HF.out tick A n c L _ E (HL.out _ E) (by omega)).mono ?_
  rintro e6 V6 ⟨v6, rfl, ho6, hV6⟩
  rw [HC0.out] at ho6
  clear HC0
  have hz := E.size
  have HO6 := Lib.hid (ho6.mono (base' := w.heap.size) hz)
  clear c_B6 f_B6 l_B6 c_B7 f_B7 l_B7
  replace B6 := B6.ext hV6
  replace B7 := B7.ext hV6
  replace E := E.trans hV6
  clear hV6 ho6 hz HL hn5 HS HC HY HD
  go_wp2_with fail
  go_loopw [15, 16] (fun v i wr => ∃ (k : Nat) (C : List Bx), k ≤ N ∧ i = .int .i64 k ∧ C.length ≤ 512 ∧ Hid (∀ b ∈ C, bxErr b = 0) ∧ Hid (updM s ⟨⟨ll, lh⟩, ⟨el, eh⟩, g⟩ sg (N - k) (tick + k) C = T) ∧ Hid (OwnBxs w.heap.size wr v C) ∧ Hid (Blk wr w.heap.size 53 #[.slice A1 n1 c1, .int .i64 home, .slice A2 n2 c2, .slice A3 n3 c3]) ∧ Hid (Blk wr (w.heap.size + 1) 28 #[.int .i64 ll, .int .i64 lh, .int .i64 el, .int .i64 eh, .int .i64 g]) ∧ Ext w wr) (fun _ i _ => N - (intOf i).toNat)
  case atStart => exact ⟨0, C0, Nat.zero_le _, rfl, hCl, HCV, Lib.hid (by simpa using HT.out), HO6, B6, B7, E⟩
  case round =>
    clear HO6 B6 B7 E HT HCV hCl
    obtain ⟨k, C, hk, rfl, hC, HV, HI, HO, B6, B7, E⟩ := hrel
    by_cases hlt : k < N
    · obtain ⟨A', c', rfl, hs', _⟩ := HO.out.cap
      have HS' := Lib.hid hs'
      have hi := HI.out
      rw [show N - k = N - (k + 1) + 1 by omega, updM, ← HH.out] at hi
      have c6 := B6.out.cell
      have c7 := B7.out.cell
      have l6 := B6.out.lt
      have l7 := B7.out.lt
      clear hs' HI
      go_wp2_with fail
      refine (HA.out _ (by omega) A' C.length c' C _ E HS'.out (by omega) HV.out).mono ?_
      rintro e7 w4 ⟨v4, rfl, ho4, h4⟩
      have hz := E.size
      have D6 := Lib.hid (B6.out.ext h4)
      have D7 := Lib.hid (B7.out.ext h4)
      have E4 := E.trans h4
      clear h4 HO HS' B6 B7 c6 c7 l6 l7
      cases hK : allB (stepB s.world.bodies home ⟨⟨ll, lh⟩, ⟨el, eh⟩, g⟩ (tick + (k : Int))) C
      · rw [hK] at hi
        have Hn : Hid (T = none) := Lib.hid (by simpa using hi.symm)
        clear hi hK ho4
        go_wp2_with fail
        (try simp only [Exit.inBlock, Exit.then]); apply bodyPost_ret; (focus (simp only [results, Tryz.results55]; go_simp; try rfl)); rfl
        exact ⟨.slice none 0 0, by rw [← HER.out, Hn.out]; rfl, by rw [← HTL.out, Hn.out]; exact OwnBxs.nil _ _, E4⟩
      · rw [hK] at hi ho4
        have hv4 := all_ok hK
        have hlC : (C.map (stepB s.world.bodies home ⟨⟨ll, lh⟩, ⟨el, eh⟩, g⟩ (tick + (k : Int)))).length ≤ 512 := by rw [List.length_map]; exact hC
        simp only [if_true] at hi ho4
        obtain ⟨A4, c4, rfl, hs4, _⟩ := ho4.cap
        have HS4 := Lib.hid hs4
        have Hi := Lib.hid hi
        generalize C.map (stepB s.world.bodies home ⟨⟨ll, lh⟩, ⟨el, eh⟩, g⟩ (tick + (k : Int))) = C4 at *
        have hl5 := Nat.le_trans (filt_len s (tick + k + 1) sg C4) hlC
        have HV5 := Lib.hid (filt_ok (s := s) (t := tick + k + 1) (sg := sg) hv4)
        clear hi hK ho4 hs4 hv4 HV
        have c6 := D6.out.cell
        have l6 := D6.out.lt
        go_wp2_with fail
        refine (HF.out (tick + (k : Int) + 1) A4 C4.length c4 C4 _ E4 HS4.out (by omega)).mono ?_
        rintro e8 w5 ⟨v5, rfl, ho5, h5⟩
        have hz4 := E4.size
        have HO5 := Lib.hid (ho5.mono (base' := w.heap.size) hz4)
        have G6 := Lib.hid (D6.out.ext h5)
        have G7 := Lib.hid (D7.out.ext h5)
        have E5 := E4.trans h5
        have Hi2 : Hid (updM s ⟨⟨ll, lh⟩, ⟨el, eh⟩, g⟩ sg (N - (k + 1)) (tick + ((k + 1 : Nat) : Int)) (filtL s (tick + k + 1) sg C4) = T) := by
          rw [show tick + ((k + 1 : Nat) : Int) = tick + k + 1 by omega]
          exact Hi
        generalize filtL s (tick + k + 1) sg C4 = C5 at *
        clear c6 l6 h5 ho5 D6 D7 E4 Hi HS4 hz4 hz E
        go_wp2_with fail
        go_roundw
        case rel => exact ⟨k + 1, C5, by omega, by go_num, hl5, HV5, Hi2, HO5, G6, G7, E5⟩
        case measure => simp [intOf]; omega
    · have hkn : k = N := by omega
      have hi := HI.out
      rw [hkn, Nat.sub_self, updM] at hi
      have Hi := Lib.hid hi
      clear HI hkn hi
      go_wp2_with fail
      (try simp only [Exit.inBlock, Exit.then]); apply bodyPost_ret; (focus (simp only [results, Tryz.results55]; go_simp; try rfl)); rfl
      exact ⟨_, by rw [← HER.out, ← Hi.out]; rfl, by rw [← HTL.out, ← Hi.out]; exact HO.out, E⟩
set_option maxRecDepth 20000 in
set_option maxHeartbeats 4000000 in
theorem rUpd_no (A1 : Option Addr) (n1 c1 : Nat) (home : Int) (A2 : Option Addr) (n2 c2 : Nat) (A3 : Option Addr) (n3 c3 : Nat) (s : Sky) (ll lh el eh g : Int) (tick : Int) (A : Option Addr) (n c : Nat) (L : List Bx) (ticks : Int) (B : Option Addr) (m e : Nat) (sg : List Sight) (w : World) (hs : IsSky w A1 n1 home A2 n2 A3 n3 s) (hl : Bxs w A n L) (hr : Sights w B m sg) (E : Int)
    (h : (skyErr s = E ∧ E ≠ 0) ∨ (skyErr s = 0 ∧ driftErr ⟨⟨ll, lh⟩, ⟨el, eh⟩, g⟩ = E ∧ E ≠ 0) ∨ (skyErr s = 0 ∧ driftErr ⟨⟨ll, lh⟩, ⟨el, eh⟩, g⟩ = 0 ∧ wayErr tick ticks L = E ∧ E ≠ 0) ∨ (skyErr s = 0 ∧ driftErr ⟨⟨ll, lh⟩, ⟨el, eh⟩, g⟩ = 0 ∧ wayErr tick ticks L = 0 ∧ sgsErr s sg = E ∧ E ≠ 0)) :
    Calls Tryz.prog 55 #[.agg #[.slice A1 n1 c1, .int .i64 home, .slice A2 n2 c2, .slice A3 n3 c3], .agg #[.int .i64 ll, .int .i64 lh, .int .i64 el, .int .i64 eh, .int .i64 g], .int .i64 tick, .slice A n c, .int .i64 ticks, .slice B m e] w fun e' w' => e' = .returned (.tuple #[.slice none 0 0, .int .i64 E]) ∧ Ext w w' := by
  have HK := Lib.hid fun W (hW : Ext w W) => refCheck_c A1 n1 c1 home A2 n2 c2 A3 n3 c3 s W (hs.ext hW)
  have HD := Lib.hid fun W => gCheckDrift_c ll lh el eh g W
  have HY := Lib.hid fun W => rSpan_c tick ticks W
  have HC := Lib.hid fun W (hW : Ext w W) => rCheckSet_c A n c L W (Bxs.ext hW hl)
  have HS := Lib.hid fun W (hW : Ext w W) => rCheckSights_c A1 n1 c1 home A2 n2 c2 A3 n3 c3 s B m e sg W (hs.ext hW) (Sights.ext hW hr)
  have hway : wayErr tick ticks L = if decide ((0 ≤ ticks ∧ ticks ≤ 400) ∧ 0 ≤ tick ∧ tick ≤ 1073741824 - ticks) = true then setErr L else 2 := by
    unfold wayErr; simp only [decide_eq_true_eq]
  rw [hway] at h
  generalize skyErr s = E1 at *
  generalize driftErr _ = E2 at *
  generalize decide ((0 ≤ ticks ∧ ticks ≤ 400) ∧ 0 ≤ tick ∧ tick ≤ 1073741824 - ticks) = Y at *
  generalize setErr L = E3 at *
  generalize sgsErr _ _ = E4 at *
  clear hs hl hr hway
  rcases h with ⟨rfl, h5⟩ | ⟨rfl, rfl, h5⟩ | ⟨rfl, rfl, h4, h5⟩ | ⟨rfl, rfl, h4, rfl, h5⟩
  · go_enter Tryz.func55, Tryz.ntmps55
    go_wp2_with fail
    refine (HK.out _ ext_by).mono ?_
    rintro e w1 ⟨rfl, h1⟩
    obtain ⟨hc_w1, hf_w1, hz_w1⟩ := bcell h1; (try simp only [szA] at hz_w1); (try have := wz0 w w1); (try have := wz1 w w1); (try have := wz2 w w1); (try have := wz3 w w1); (try have := wz4 w w1)
    go_wp2_with fail
    (try simp only [Exit.inBlock, Exit.then]); apply bodyPost_ret; (focus (simp only [results, Tryz.results55]; go_simp; try rfl)); rfl
    exact ⟨rfl, ext_by⟩
  · go_enter Tryz.func55, Tryz.ntmps55
    go_wp2_with fail
    refine (HK.out _ ext_by).mono ?_
    rintro e w1 ⟨rfl, h1⟩
    obtain ⟨hc_w1, hf_w1, hz_w1⟩ := bcell h1; (try simp only [szA] at hz_w1); (try have := wz0 w w1); (try have := wz1 w w1); (try have := wz2 w w1); (try have := wz3 w w1); (try have := wz4 w w1)
    go_wp2_with fail
    refine (HD.out _).mono ?_
    rintro e w2 ⟨rfl, h2⟩
    obtain ⟨hc_w2, hf_w2, hz_w2⟩ := bcell h2; (try simp only [szA] at hz_w2); (try have := wz0 w w2); (try have := wz1 w w2); (try have := wz2 w w2); (try have := wz3 w w2); (try have := wz4 w w2)
    go_wp2_with fail
    (try simp only [Exit.inBlock, Exit.then]); apply bodyPost_ret; (focus (simp only [results, Tryz.results55]; go_simp; try rfl)); rfl
    exact ⟨rfl, ext_by⟩
  · cases Y
    · have h6 : (2 : Int) = E := by simpa using h4
      subst h6
      clear h4
      go_enter Tryz.func55, Tryz.ntmps55
      go_wp2_with fail
      refine (HK.out _ ext_by).mono ?_
      rintro e w1 ⟨rfl, h1⟩
      obtain ⟨hc_w1, hf_w1, hz_w1⟩ := bcell h1; (try simp only [szA] at hz_w1); (try have := wz0 w w1); (try have := wz1 w w1); (try have := wz2 w w1); (try have := wz3 w w1); (try have := wz4 w w1)
      go_wp2_with fail
      refine (HD.out _).mono ?_
      rintro e w2 ⟨rfl, h2⟩
      obtain ⟨hc_w2, hf_w2, hz_w2⟩ := bcell h2; (try simp only [szA] at hz_w2); (try have := wz0 w w2); (try have := wz1 w w2); (try have := wz2 w w2); (try have := wz3 w w2); (try have := wz4 w w2)
      go_wp2_with fail
      refine (HY.out _).mono ?_
      rintro e w3 ⟨rfl, h3⟩
      obtain ⟨hc_w3, hf_w3, hz_w3⟩ := bcell h3; (try simp only [szA] at hz_w3); (try have := wz0 w w3); (try have := wz1 w w3); (try have := wz2 w w3); (try have := wz3 w w3); (try have := wz4 w w3)
      go_wp2_with fail
      (try simp only [Exit.inBlock, Exit.then]); apply bodyPost_ret; (focus (simp only [results, Tryz.results55]; go_simp; try rfl)); rfl
      exact ⟨rfl, ext_by⟩
    · have h6 : E3 = E := by simpa using h4
      subst h6
      clear h4
      go_enter Tryz.func55, Tryz.ntmps55
      go_wp2_with fail
      refine (HK.out _ ext_by).mono ?_
      rintro e w1 ⟨rfl, h1⟩
      obtain ⟨hc_w1, hf_w1, hz_w1⟩ := bcell h1; (try simp only [szA] at hz_w1); (try have := wz0 w w1); (try have := wz1 w w1); (try have := wz2 w w1); (try have := wz3 w w1); (try have := wz4 w w1)
      go_wp2_with fail
      refine (HD.out _).mono ?_
      rintro e w2 ⟨rfl, h2⟩
      obtain ⟨hc_w2, hf_w2, hz_w2⟩ := bcell h2; (try simp only [szA] at hz_w2); (try have := wz0 w w2); (try have := wz1 w w2); (try have := wz2 w w2); (try have := wz3 w w2); (try have := wz4 w w2)
      go_wp2_with fail
      refine (HY.out _).mono ?_
      rintro e w3 ⟨rfl, h3⟩
      obtain ⟨hc_w3, hf_w3, hz_w3⟩ := bcell h3; (try simp only [szA] at hz_w3); (try have := wz0 w w3); (try have := wz1 w w3); (try have := wz2 w w3); (try have := wz3 w w3); (try have := wz4 w w3)
      go_wp2_with fail
      refine (HC.out _ ext_by).mono ?_
      rintro e w4 ⟨rfl, h4⟩
      obtain ⟨hc_w4, hf_w4, hz_w4⟩ := bcell h4; (try simp only [szA] at hz_w4); (try have := wz0 w w4); (try have := wz1 w w4); (try have := wz2 w w4); (try have := wz3 w w4); (try have := wz4 w w4)
      go_wp2_with fail
      (try simp only [Exit.inBlock, Exit.then]); apply bodyPost_ret; (focus (simp only [results, Tryz.results55]; go_simp; try rfl)); rfl
      exact ⟨rfl, ext_by⟩
  · cases Y
    · simp at h4
    · have h6 : E3 = 0 := by simpa using h4
      subst h6
      clear h4
      go_enter Tryz.func55, Tryz.ntmps55
      go_wp2_with fail
      refine (HK.out _ ext_by).mono ?_
      rintro e w1 ⟨rfl, h1⟩
      obtain ⟨hc_w1, hf_w1, hz_w1⟩ := bcell h1; (try simp only [szA] at hz_w1); (try have := wz0 w w1); (try have := wz1 w w1); (try have := wz2 w w1); (try have := wz3 w w1); (try have := wz4 w w1)
      go_wp2_with fail
      refine (HD.out _).mono ?_
      rintro e w2 ⟨rfl, h2⟩
      obtain ⟨hc_w2, hf_w2, hz_w2⟩ := bcell h2; (try simp only [szA] at hz_w2); (try have := wz0 w w2); (try have := wz1 w w2); (try have := wz2 w w2); (try have := wz3 w w2); (try have := wz4 w w2)
      go_wp2_with fail
      refine (HY.out _).mono ?_
      rintro e w3 ⟨rfl, h3⟩
      obtain ⟨hc_w3, hf_w3, hz_w3⟩ := bcell h3; (try simp only [szA] at hz_w3); (try have := wz0 w w3); (try have := wz1 w w3); (try have := wz2 w w3); (try have := wz3 w w3); (try have := wz4 w w3)
      go_wp2_with fail
      refine (HC.out _ ext_by).mono ?_
      rintro e w4 ⟨rfl, h4⟩
      obtain ⟨hc_w4, hf_w4, hz_w4⟩ := bcell h4; (try simp only [szA] at hz_w4); (try have := wz0 w w4); (try have := wz1 w w4); (try have := wz2 w w4); (try have := wz3 w w4); (try have := wz4 w w4)
      go_wp2_with fail
      refine (HS.out _ ext_by).mono ?_
      rintro e w5 ⟨rfl, h5⟩
      obtain ⟨hc_w5, hf_w5, hz_w5⟩ := bcell h5; (try simp only [szA] at hz_w5); (try have := wz0 w w5); (try have := wz1 w w5); (try have := wz2 w w5); (try have := wz3 w w5); (try have := wz4 w w5)
      go_wp2_with fail
      (try simp only [Exit.inBlock, Exit.then]); apply bodyPost_ret; (focus (simp only [results, Tryz.results55]; go_simp; try rfl)); rfl
      exact ⟨rfl, ext_by⟩
theorem rUpdate_c (A1 : Option Addr) (n1 c1 : Nat) (home : Int) (A2 : Option Addr) (n2 c2 : Nat) (A3 : Option Addr) (n3 c3 : Nat) (s : Sky) (d : Drf) (tick : Int) (A : Option Addr) (n c : Nat) (L : List Bx) (ticks : Int) (B : Option Addr) (m e : Nat) (sg : List Sight) (w : World) (hs : IsSky w A1 n1 home A2 n2 A3 n3 s) (hl : Bxs w A n L) (hr : Sights w B m sg) :
    Calls Tryz.prog 55 #[.agg #[.slice A1 n1 c1, .int .i64 home, .slice A2 n2 c2, .slice A3 n3 c3], .agg #[.int .i64 d.light.lo, .int .i64 d.light.hi, .int .i64 d.heat.lo, .int .i64 d.heat.hi, .int .i64 d.gas], .int .i64 tick, .slice A n c, .int .i64 ticks, .slice B m e] w fun e' w' =>
      ∃ v, e' = .returned (.tuple #[v, .int .i64 (updErr s d tick L ticks sg)]) ∧ OwnBxs w.heap.size w' v (updL s d tick L ticks sg) ∧ Ext w w' := by
  rcases upd_cases s d tick L ticks sg with ⟨h1, h2, h3, h4, h5, h6⟩ | ⟨h1, h2⟩
  · rw [h5, h6]
    have ht : ((ticks.toNat : Nat) : Int) = ticks := by have := (way_ok h3).1; omega
    have := rUpd_yes A1 n1 c1 home A2 n2 c2 A3 n3 c3 s d tick A n c L ticks.toNat B m e sg w hs hl hr h1 h2 (by rw [ht]; exact h3) h4 _ rfl
    rw [ht] at this
    exact this
  · rw [h1]
    refine (rUpd_no A1 n1 c1 home A2 n2 c2 A3 n3 c3 s d.light.lo d.light.hi d.heat.lo d.heat.hi d.gas tick A n c L ticks B m e sg w hs hl hr _ h2).mono ?_
    rintro e' w' ⟨he, h⟩
    exact ⟨_, he, OwnBxs.nil _ _, h⟩
end Go.Proofs.YtfniicgoeljmdaaGreat

namespace Go.Proofs.YtfniicgoeljmdaaGreat
open Go.RowKit Go.ChangeShapes Go.WideShapes Go.ChangeAt

set_option maxRecDepth 20000 in
set_option maxHeartbeats 4000000 in
theorem OrbitUpdates_c (A1 : Option Addr) (n1 c1 : Nat) (home : Int) (A2 : Option Addr) (n2 c2 : Nat) (A3 : Option Addr) (n3 c3 : Nat) (s : Sky) (dd : Drf) (tick : Int) (A : Option Addr) (n c : Nat) (l : List Bx) (ticks : Int) (B : Option Addr) (m d : Nat) (r : List Sight) (N : Int) (w : World) (hs : IsSky w A1 n1 home A2 n2 A3 n3 s) (hl : Bxs w A n l) (_ : n ≤ c) (hr : Sights w B m r) :
    Calls Tryz.prog 10 #[.agg #[.slice A1 n1 c1, .int .i64 home, .slice A2 n2 c2, .slice A3 n3 c3], .agg #[.int .i64 dd.light.lo, .int .i64 dd.light.hi, .int .i64 dd.heat.lo, .int .i64 dd.heat.hi, .int .i64 dd.gas], .int .i64 tick, .slice A n c, .int .i64 ticks, .slice B m d, .int .i64 N] w fun e w' => e = .returned (.bool true) ∧ Ext w w' := by
  have hn := hl.le
  have hm := hr.le
  have HA := Lib.hid fun W => awake4_c W
  have HB := Lib.hid fun W (hW : Ext w W) => BigSky_c A1 n1 c1 home A2 n2 c2 A3 n3 c3 s W (hs.ext hW)
  have HF := Lib.hid fun W (hW : Ext w W) => oUpdate_c A1 n1 c1 home A2 n2 c2 A3 n3 c3 s dd tick A n c l ticks B m d r W (hs.ext hW) (Bxs.ext hW hl) (Sights.ext hW hr)
  have GF := Lib.hid fun W (hW : Ext w W) => rUpdate_c A1 n1 c1 home A2 n2 c2 A3 n3 c3 s dd tick A n c l ticks B m d r W (hs.ext hW) (Bxs.ext hW hl) (Sights.ext hW hr)
  have HR := Lib.hid fun W (hW : Ext w W) => oPack_c A n c l N W (Bxs.ext hW hl)
  have GR := Lib.hid fun W (hW : Ext w W) => rPack_c A n c l N W (Bxs.ext hW hl)
  have HS := Lib.hid fun A' n' c' B' m' d' l' W => SameBoxes_c A' n' c' B' m' d' l' W
  generalize bigSky s = G at *
  by_cases hbig : G = true ∨ 20 < n ∨ 66 < m ∨ (12 < ticks ∧ ticks ≤ 400)
  · rcases (show G = true ∨ (G = false ∧ 20 < n) ∨ (G = false ∧ n ≤ 20 ∧ 66 < m) ∨ (G = false ∧ n ≤ 20 ∧ m ≤ 66 ∧ 12 < ticks ∧ ticks ≤ 400) by cases G <;> simp at hbig ⊢ <;> omega) with rfl | ⟨rfl, h1⟩ | ⟨rfl, h1, h2⟩ | ⟨rfl, h1, h2, h3, h4⟩
    all_goals clear hbig HF GF HR GR HS hs hl hr
    all_goals go_enter Tryz.func10, Tryz.ntmps10
    all_goals go_wp2_with fail
    all_goals refine (HB.out _ ext_by).mono ?_
    all_goals rintro e w1 ⟨rfl, h1⟩
    all_goals obtain ⟨hc_w1, hf_w1, hz_w1⟩ := bcell h1; (try simp only [szA] at hz_w1); (try have := wz0 w w1); (try have := wz1 w w1); (try have := wz2 w w1); (try have := wz3 w w1); (try have := wz4 w w1)
    all_goals go_wp2_with fail
    all_goals refine (HA.out _).mono ?_
    all_goals rintro e w2 ⟨rfl, h2⟩
    all_goals obtain ⟨hc_w2, hf_w2, hz_w2⟩ := bcell h2; (try simp only [szA] at hz_w2); (try have := wz0 w w2); (try have := wz1 w w2); (try have := wz2 w w2); (try have := wz3 w w2); (try have := wz4 w w2)
    all_goals go_wp2_with fail
    all_goals go_ret
    all_goals exact ⟨rfl, ext_by⟩
  · obtain ⟨rfl, h1, h2, h3⟩ : G = false ∧ n ≤ 20 ∧ m ≤ 66 ∧ (ticks ≤ 12 ∨ 400 < ticks) := by cases G <;> simp at hbig ⊢ <;> omega
    generalize updErr s dd tick l ticks r = e1 at *
    generalize packErr l N = e2 at *
    generalize updL s dd tick l ticks r = L1 at *
    generalize packL l N = L2 at *
    obtain ⟨⟨ll, lh⟩, ⟨el, eh⟩, gs⟩ := dd
    dsimp only at HF GF ⊢
    clear hbig hs hl hr
    rcases (show ticks ≤ 12 ∨ (12 < ticks ∧ 400 < ticks) by omega) with h4 | ⟨h4, h5⟩
    all_goals clear h3
    all_goals go_enter Tryz.func10, Tryz.ntmps10
    all_goals go_wp2_with fail
    all_goals refine (HB.out _ ext_by).mono ?_
    all_goals rintro e V1 ⟨rfl, hV1⟩
    all_goals have B7 : Blk V1 w.heap.size 53 #[.slice A1 n1 c1, .int .i64 home, .slice A2 n2 c2, .slice A3 n3 c3] := ((Blk.newAt rfl).alloc _).ext hV1
    all_goals have B8 : Blk V1 (w.heap.size + 1) 28 #[.int .i64 ll, .int .i64 lh, .int .i64 el, .int .i64 eh, .int .i64 gs] := (Blk.newAt (by simp)).ext hV1
    all_goals have E : Ext w V1 := ext_by
    all_goals clear hV1 HB
    all_goals have c_B7 := B7.cell; have f_B7 := B7.frozen; have l_B7 := B7.lt; have c_B8 := B8.cell; have f_B8 := B8.frozen; have l_B8 := B8.lt
    all_goals go_wp2_with fail
    all_goals refine (HF.out _ E).mono ?_
    all_goals rintro e V3 ⟨v3, rfl, ho3, hV3⟩
    all_goals obtain ⟨A3', c3', rfl, hs3, _⟩ := ho3.cap
    all_goals clear c_B7 f_B7 l_B7 c_B8 f_B8 l_B8
    all_goals replace B7 := B7.ext hV3
    all_goals replace B8 := B8.ext hV3
    all_goals replace E := E.trans hV3
    all_goals have HP3 := Lib.hid fun W (hW : Ext V3 W) => Bxs.ext hW hs3
    all_goals clear hV3 ho3 hs3
    all_goals have c_B7 := B7.cell; have f_B7 := B7.frozen; have l_B7 := B7.lt; have c_B8 := B8.cell; have f_B8 := B8.frozen; have l_B8 := B8.lt
    all_goals go_wp2_with fail
    all_goals refine (GF.out _ E).mono ?_
    all_goals rintro e V4 ⟨v4, rfl, ho4, hV4⟩
    all_goals obtain ⟨A4, c4, rfl, hs4, _⟩ := ho4.cap
    all_goals clear c_B7 f_B7 l_B7 c_B8 f_B8 l_B8
    all_goals replace E := E.trans hV4
    all_goals have Q1 := Lib.hid fun W (hW : Ext V4 W) => HS.out _ _ c3' _ _ c4 _ W (HP3.out W (hV4.trans hW)) (Bxs.ext hW hs4)
    all_goals clear hV4 ho4 hs4 HP3 B7 B8 HF GF
    all_goals go_wp2_with fail
    all_goals refine (HR.out _ E).mono ?_
    all_goals rintro e V5 ⟨v5, rfl, ho5, hV5⟩
    all_goals obtain ⟨A5, c5, rfl, hs5, _⟩ := ho5.cap
    all_goals replace E := E.trans hV5
    all_goals have HP5 := Lib.hid fun W (hW : Ext V5 W) => Bxs.ext hW hs5
    all_goals have Q2 := Lib.hid fun W (hW : Ext V5 W) => Q1.out W (hV5.trans hW)
    all_goals clear hV5 ho5 hs5 Q1
    all_goals go_wp2_with fail
    all_goals refine (GR.out _ E).mono ?_
    all_goals rintro e V6 ⟨v6, rfl, ho6, hV6⟩
    all_goals obtain ⟨A6, c6, rfl, hs6, _⟩ := ho6.cap
    all_goals replace E := E.trans hV6
    all_goals have Q3 := Lib.hid fun W (hW : Ext V6 W) => HS.out _ _ c5 _ _ c6 _ W (HP5.out W (hV6.trans hW)) (Bxs.ext hW hs6)
    all_goals have Q4 := Lib.hid fun W (hW : Ext V6 W) => Q2.out W (hV6.trans hW)
    all_goals clear hV6 ho6 hs6 HP5 Q2 HR GR HS
    all_goals go_wp2_with fail
    all_goals refine (Q4.out _ ext_by).mono ?_
    all_goals rintro e w7 ⟨rfl, h7⟩
    all_goals obtain ⟨hc_w7, hf_w7, hz_w7⟩ := bcell h7; (try simp only [szA] at hz_w7); (try have := wz0 w w7); (try have := wz1 w w7); (try have := wz2 w w7); (try have := wz3 w w7); (try have := wz4 w w7)
    all_goals go_wp2_with fail
    all_goals refine (Q3.out _ ext_by).mono ?_
    all_goals rintro e w8 ⟨rfl, h8⟩
    all_goals obtain ⟨hc_w8, hf_w8, hz_w8⟩ := bcell h8; (try simp only [szA] at hz_w8); (try have := wz0 w w8); (try have := wz1 w w8); (try have := wz2 w w8); (try have := wz3 w w8); (try have := wz4 w w8)
    all_goals go_wp2_with fail
    all_goals refine (HA.out _).mono ?_
    all_goals rintro e w9 ⟨rfl, h9⟩
    all_goals obtain ⟨hc_w9, hf_w9, hz_w9⟩ := bcell h9; (try simp only [szA] at hz_w9); (try have := wz0 w w9); (try have := wz1 w w9); (try have := wz2 w w9); (try have := wz3 w w9); (try have := wz4 w w9)
    all_goals go_wp2_with fail
    all_goals go_ret
    all_goals exact ⟨rfl, ext_by⟩
end Go.Proofs.YtfniicgoeljmdaaGreat

namespace Go.Proofs.YtfniicgoeljmdaaGreat
open Go.RowKit Go.ChangeShapes Go.WideShapes Go.ChangeAt

set_option maxRecDepth 100000 in
set_option maxHeartbeats 1000000 in
theorem updates_lifted (os : Os) (started : os.Started) (H : Type) (enc : TypeId × Value → H) :
    ReturnsInHanded {} Tryz.checked os 10 .any (Rows.orbitUpdatesSpec.pre6 enc Tryz.prog Tryz.f10 Rows.orbitUpdatesRow.domain false) (Rows.orbitUpdatesSpec.post enc Tryz.prog Tryz.f10 false true false false) := by
  refine returnsInHanded_of_change (C := Tryz.checked) own started (by kernel_rfl) Tryz.func10
    (ChangeSpec.witness6 (enc := enc) (C := Tryz.checked) false ⟨#[], #[.agg #[.slice none 0 0, .int .i64 0, .slice none 0 0, .slice none 0 0], .agg #[.int .i64 0, .int .i64 0, .int .i64 0, .int .i64 0, .int .i64 0], .int .i64 0, .slice none 0 0, .int .i64 0, .slice none 0 0, .int .i64 0], []⟩ 8 (by kernel_rfl) (by kernel_rfl) (by kernel_rfl) (by kernel_rfl)) ?_
  intro W base args ds gs before hval0 hW _ _
  have hval : ∀ (j : Nat) t v, Tryz.f10.params[j]? = some t → args[j]? = some v → Value.okWide Tryz.prog W .any base t v := hval0
  have hW' := hW
  obtain ⟨p, q, hA0, hV, rfl, hfz, hnd⟩ := hW
  have hA : DataW.TrodAll enc Tryz.prog W 0 (fun _ => true) true Tryz.f10.params.toList args.toList ds p := hA0
  rw [Tryz.params10] at hA hval
  obtain ⟨v0, vs0, d0, ds0, p0, q0, hargs, rfl, rfl, h0, r0⟩ := trodAll_cons hA
  obtain ⟨v1, vs1, d1, ds1, p1, q1, rfl, rfl, rfl, h1, r1⟩ := trodAll_cons r0
  obtain ⟨v2, vs2, d2, ds2, p2, q2, rfl, rfl, rfl, h2, r2⟩ := trodAll_cons r1
  obtain ⟨v3, vs3, d3, ds3, p3, q3, rfl, rfl, rfl, h3, r3⟩ := trodAll_cons r2
  obtain ⟨v4, vs4, d4, ds4, p4, q4, rfl, rfl, rfl, h4, r4⟩ := trodAll_cons r3
  obtain ⟨v5, vs5, d5, ds5, p5, q5, rfl, rfl, rfl, h5, r5⟩ := trodAll_cons r4
  obtain ⟨v6, vs6, d6, ds6, p6, q6, rfl, rfl, rfl, h6, r6⟩ := trodAll_cons r5
  obtain ⟨rfl, rfl, rfl⟩ := trodAll_nil r6
  obtain ⟨rfl, rfl⟩ := trodVars_none hV
  obtain rfl : args = #[v0, v1, v2, v3, v4, v5, v6] := by cases args; simp_all
  obtain ⟨cs0, rfl, _⟩ := okWide_struct Tryz.underlying53 (hval 0 _ v0 rfl rfl)
  obtain ⟨fuel0, h0⟩ := h0
  obtain ⟨A1_0, n1_0, c1_0, home_0, A2_0, n2_0, c2_0, A3_0, n3_0, c3_0, s_0, e0, hs0⟩ := open_sky h0
  obtain ⟨cs0⟩ := cs0
  obtain rfl : cs0 = _ := e0
  obtain ⟨cs1, rfl, _⟩ := okWide_struct Tryz.underlying28 (hval 1 _ v1 rfl rfl)
  obtain ⟨fuel1, h1⟩ := h1
  obtain ⟨x1, e1⟩ := open_drift h1
  obtain ⟨cs1⟩ := cs1
  obtain rfl : cs1 = _ := e1
  obtain ⟨m2, rfl⟩ := okWide_int Tryz.underlying2 (hval 2 _ v2 rfl rfl)
  obtain ⟨A3, len3, cap3, rfl⟩ := okWide_slice Tryz.underlying39 (hval 3 _ v3 rfl rfl)
  obtain ⟨fuel3, h3⟩ := h3
  obtain ⟨A_3, n_3, c_3, l_3, e3, hl3, hc3⟩ := open_boxes h3
  injection e3 with e3 _; injection e3 with e3a e3b e3c; subst e3a e3b e3c
  obtain ⟨m4, rfl⟩ := okWide_int Tryz.underlying3 (hval 4 _ v4 rfl rfl)
  obtain ⟨A5, len5, cap5, rfl⟩ := okWide_slice Tryz.underlying70 (hval 5 _ v5 rfl rfl)
  obtain ⟨fuel5, h5⟩ := h5
  obtain ⟨A_5, n_5, c_5, l_5, e5, hl5⟩ := open_sights h5
  injection e5 with e5 _; injection e5 with e5a e5b e5c; subst e5a e5b e5c
  obtain ⟨m6, rfl⟩ := okWide_int Tryz.underlying3 (hval 6 _ v6 rfl rfl)
  refine (OrbitUpdates_c A1_0 n1_0 c1_0 home_0 A2_0 n2_0 c2_0 A3_0 n3_0 c3_0 s_0 x1 _ A3 len3 cap3 l_3 _ A5 len5 cap5 l_5 _ W hs0   hl3 hc3  hl5 ).mono fun e W' ⟨he, hb⟩ => ?_
  subst he
  exact ⟨_, rfl, law_post (by kernel_rfl) rfl rfl hW' rfl hb⟩

end Go.Proofs.YtfniicgoeljmdaaGreat
