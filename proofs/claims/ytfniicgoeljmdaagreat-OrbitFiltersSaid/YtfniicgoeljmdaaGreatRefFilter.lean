/- Sets that are filtered, split and refined: the program. No condition. Sets that are filtered: the reference. No condition. -/
import Derived.Test.YtfniicgoeljmdaaGreatFilter
import Derived.Test.YtfniicgoeljmdaaGreatRefSplit
import Derived.Test.YtfniicgoeljmdaaGreatRefExcludes2
import Derived.Test.YtfniicgoeljmdaaGreatOpen3
namespace Go.Proofs.YtfniicgoeljmdaaGreat
open Go.RowKit

/-- The error of what Filter is asked. -/
def askErr (s : Sky) (tick : Int) (l : List Bx) (sg : List Sight) : Int := if skyErr s ≠ 0 then skyErr s else if within tick 0 1073741824 = false then 2 else if setErr l ≠ 0 then setErr l else sgsErr s sg
def halfB (b : Bx) : List Bx := if splitOk b then [partL b, partR b] else [b]
def halfL (l : List Bx) : List Bx := l.flatMap halfB
theorem half_len (l : List Bx) : (halfL l).length ≤ 2 * l.length := by
  induction l with
  | nil => simp [halfL]
  | cons b r ih =>
    have h : (halfB b).length ≤ 2 := by unfold halfB; split <;> simp
    simp only [halfL, List.flatMap_cons, List.length_append, List.length_cons] at ih ⊢
    omega
/-- An append of boxes to a list that the call owns: what holds behind it. -/
theorem own_app {base : Nat} {w0 w w' : World} {v v' : Value} {l r : List Bx} {n : Nat} (h : OwnBxs base w v l) (e0 : Ext w0 w) (hb : w0.heap.size ≤ base) (hn : n = r.length) (ho : w'.ownsRow base 38 8 v' (l.length + n) (l.flatMap bxC ++ r.flatMap bxC)) (hg : w.grownBy w' v.ownBlock) : OwnBxs base w' v' (l ++ r) ∧ Ext w0 w' :=
  ⟨OwnBxs.ofApp hn ho, own_ext e0 h hg hb⟩
set_option maxRecDepth 20000 in
set_option maxHeartbeats 4000000 in
theorem oHalves_c (A : Option Addr) (n c : Nat) (l : List Bx) (w : World) (hl : Bxs w A n l) (hn : n ≤ 2000) :
    Calls Tryz.prog 108 #[.slice A n c] w fun e w' => ∃ v, e = .returned v ∧ OwnBxs w.heap.size w' v (halfL l) ∧ Ext w w' := by
  have HLn := Lib.hid hl.len
  have HL := Lib.hid fun W (hW : Ext w W) => Bxs.ext hW hl
  obtain ⟨ic, hic, hc0, hc1, hc2⟩ := info_parts info_box
  have HK := Lib.hid fun x W => oSplit_c x W
  obtain ⟨T, hT⟩ : ∃ T, halfL l = T := ⟨_, rfl⟩
  have hTl : T.length ≤ 4000 := by rw [← hT]; have := half_len l; have := hl.len; omega
  have HT := Lib.hid hT
  rw [hT]
  clear hl hT
  go_enter Tryz.func108, Tryz.ntmps108
  go_wp2_with fail
  go_loopw [3, 11] (fun o i wr => ∃ (k : Nat) (acc : List Bx), k ≤ n ∧ i = .int .i64 k ∧ Hid (acc ++ halfL (l.drop k) = T) ∧ Hid (OwnBxs w.heap.size wr o acc) ∧ Ext w wr) (fun _ i _ => n - (intOf i).toNat)
  case atStart => exact ⟨0, [], Nat.zero_le _, rfl, Lib.hid HT.out, OwnBxs.nil _ _, Ext.refl _⟩
  case round =>
    obtain ⟨k, acc, hk, rfl, HI, HO, E⟩ := hrel
    have hz := E.size
    by_cases hlt : k < n
    · obtain ⟨b, off, x, rfl, HD, _, hx⟩ := (HL.out wr E).one hlt
      have hi := HI.out
      have hlen := congrArg List.length hi
      rw [List.length_append] at hlen
      rw [HD.out, halfL, List.flatMap_cons, ← halfL, ← List.append_assoc] at hi
      obtain ⟨hx0, hx1, hx2, hx3, hx4, hx5, hx6, hx7⟩ := hx
      have hbl : b < wr.heap.size := World.block_lt_of_cell? wr _ hx0
      have HX := Lib.hid fun W => HK.out x W
      unfold splitV at HX
      unfold halfB at hi
      clear HI HD
      cases hs : splitOk x
      · rw [hs] at hi HX
        simp only [Bool.false_eq_true, if_false] at hi HX
        have Hi := Lib.hid hi
        clear hi hs
        obtain ⟨⟨xl, xh⟩, ⟨yl, yh⟩, ⟨ul, uh⟩, vl, vh⟩ := x
        dsimp only [bxV, zeroB] at hx0 hx1 hx2 hx3 hx4 hx5 hx6 hx7 HX
        go_wp2_with fail
        refine (HX.out _).mono ?_
        rintro e w5 ⟨rfl, h5⟩
        have B5 : Blk w5 wr.heap.size 38 #[.int .i64 xl, .int .i64 xh, .int .i64 yl, .int .i64 yh, .int .i64 ul, .int .i64 uh, .int .i64 vl, .int .i64 vh] := (Blk.new wr _ _).ext h5
        have E5 : Ext wr w5 := (Ext.alloc0 _ _).trans h5
        have HO5 := Lib.hid (OwnBxs.ext HO.out E5)
        have hz5 := E5.size
        have EE := E.trans E5
        clear h5 HO hx0 hx1 hx2 hx3 hx4 hx5 hx6 hx7 hbl E5
        have c_B5 := B5.cell; have f_B5 := B5.frozen; have l_B5 := B5.lt
        go_wp2_with (at_builtin; go_loud (refine wpList_append_sl rfl (.tmp 27) (.tmp 29) 39 rfl w.heap.size 38 ic _ 8 64 Tryz.underlying39 hic hc0 hc1 hc2 rfl (by decide) _ acc.length (acc.flatMap bxC) rfl (own_ext_keep HO5.out (by (repeat' (first | exact Ext.refl _ | assumption | apply Ext.alloc | apply Ext.drew | refine Ext.set ?_ (by dsimp only; omega) _ | refine Ext.trans ?_ (by assumption))))) (some ⟨_, 0, none⟩) 1 1 [.int .i64 xl, .int .i64 xh, .int .i64 yl, .int .i64 yh, .int .i64 ul, .int .i64 uh, .int .i64 vl, .int .i64 vh] rfl rfl (.inr ⟨_, rfl, new_cells (by simp)⟩) (by simp [Value.oneCell']) (by unfold maxLen; omega) (by omega) (by simp only [World.size_alloc]; omega) ?_))
        intro v' w6 ho6 hg6 _
        obtain ⟨ho, he⟩ := own_app (w0 := w) (OwnBxs.ext HO5.out ((((Ext.refl w5).alloc _).alloc _).alloc _)) (((EE.alloc _).alloc _).alloc _) (Nat.le_refl _) (show 1 = [(⟨⟨xl, xh⟩, ⟨yl, yh⟩, ⟨ul, uh⟩, vl, vh⟩ : Bx)].length from rfl) ho6 hg6
        have HO6 := Lib.hid ho
        clear ho ho6 hg6 HO5 EE
        clear c_B5 f_B5 l_B5
        clear B5
        go_wp2_with fail
        go_roundw
        case rel => exact ⟨k + 1, _, by omega, by go_num, Hi, HO6, he⟩
        case measure => simp [intOf]; omega
      · rw [hs] at hi HX
        simp only [if_true] at hi HX
        have Hi := Lib.hid hi
        clear hi hs
        generalize partL x = L at *
        generalize partR x = R at *
        obtain ⟨⟨xl, xh⟩, ⟨yl, yh⟩, ⟨ul, uh⟩, vl, vh⟩ := x
        obtain ⟨⟨lxl, lxh⟩, ⟨lyl, lyh⟩, ⟨lul, luh⟩, lvl, lvh⟩ := L
        obtain ⟨⟨rxl, rxh⟩, ⟨ryl, ryh⟩, ⟨rul, ruh⟩, rvl, rvh⟩ := R
        dsimp only [bxV] at hx0 hx1 hx2 hx3 hx4 hx5 hx6 hx7 HX
        go_wp2_with fail
        refine (HX.out _).mono ?_
        rintro e w5 ⟨rfl, h5⟩
        have E5 : Ext wr w5 := (Ext.alloc0 _ _).trans h5
        have HO5 := Lib.hid (OwnBxs.ext HO.out E5)
        have hz5 := E5.size
        have EE := E.trans E5
        clear h5 HO hx0 hx1 hx2 hx3 hx4 hx5 hx6 hx7 hbl E5
        go_wp2_with (at_builtin; go_loud (refine wpList_append_sl rfl (.tmp 22) (.tmp 25) 39 rfl w.heap.size 38 ic _ 8 64 Tryz.underlying39 hic hc0 hc1 hc2 rfl (by decide) _ acc.length (acc.flatMap bxC) rfl (own_ext_keep HO5.out (by (repeat' (first | exact Ext.refl _ | assumption | apply Ext.alloc | apply Ext.drew | refine Ext.set ?_ (by dsimp only; omega) _ | refine Ext.trans ?_ (by assumption))))) (some ⟨_, 0, none⟩) 2 2 [.int .i64 lxl, .int .i64 lxh, .int .i64 lyl, .int .i64 lyh, .int .i64 lul, .int .i64 luh, .int .i64 lvl, .int .i64 lvh, .int .i64 rxl, .int .i64 rxh, .int .i64 ryl, .int .i64 ryh, .int .i64 rul, .int .i64 ruh, .int .i64 rvl, .int .i64 rvh] rfl rfl (.inr ⟨_, rfl, new_cells (by simp)⟩) (by simp [Value.oneCell']) (by unfold maxLen; omega) (by omega) (by simp only [World.size_alloc]; omega) ?_))
        intro v' w6 ho6 hg6 _
        obtain ⟨ho, he⟩ := own_app (w0 := w) (OwnBxs.ext HO5.out ((((Ext.refl w5).alloc _).alloc _).alloc _)) (((EE.alloc _).alloc _).alloc _) (Nat.le_refl _) (show 2 = [(⟨⟨lxl, lxh⟩, ⟨lyl, lyh⟩, ⟨lul, luh⟩, lvl, lvh⟩ : Bx), ⟨⟨rxl, rxh⟩, ⟨ryl, ryh⟩, ⟨rul, ruh⟩, rvl, rvh⟩].length from rfl) ho6 hg6
        have HO6 := Lib.hid ho
        clear ho ho6 hg6 HO5 EE
        go_wp2_with fail
        go_roundw
        case rel => exact ⟨k + 1, _, by omega, by go_num, Hi, HO6, he⟩
        case measure => simp [intOf]; omega
    · have hkn : k = n := by omega
      subst hkn
      have hi := HI.out
      rw [HLn.out, List.drop_length] at hi
      have Hi : Hid (acc = T) := Lib.hid (by simpa [halfL] using hi)
      clear hi HI HLn
      go_wp2_with fail
      go_ret
      exact ⟨_, rfl, by rw [← Hi.out]; exact HO.out, E⟩
end Go.Proofs.YtfniicgoeljmdaaGreat

namespace Go.Proofs.YtfniicgoeljmdaaGreat
open Go.RowKit

set_option maxRecDepth 20000 in
set_option maxHeartbeats 4000000 in
theorem rFilterL_c (A1 : Option Addr) (n1 c1 : Nat) (home : Int) (A2 : Option Addr) (n2 c2 : Nat) (A3 : Option Addr) (n3 c3 : Nat) (s : Sky) (tick : Int) (A : Option Addr) (n c : Nat) (l : List Bx) (B : Option Addr) (m d : Nat) (r : List Sight) (w : World) (hs : IsSky w A1 n1 home A2 n2 A3 n3 s) (hl : Bxs w A n l) (hr : Sights w B m r) (hn : n ≤ 2000) :
    Calls Tryz.prog 107 #[.agg #[.slice A1 n1 c1, .int .i64 home, .slice A2 n2 c2, .slice A3 n3 c3], .int .i64 tick, .slice A n c, .slice B m d] w fun e w' => ∃ v, e = .returned v ∧ OwnBxs w.heap.size w' v (filtL s tick r l) ∧ Ext w w' := by
  have hm := hr.le
  have HX := Lib.hid fun (x : Sight) (xl xh yl yh : Int) W (hW : Ext w W) => refExcludes_c A1 n1 c1 home A2 n2 c2 A3 n3 c3 s x.kind x.station x.catalog x.tick x.dx x.dy x.err x.lo x.hi xl xh yl yh W (hs.ext hW)
  have HLn := Lib.hid hl.len
  have HRn := Lib.hid hr.len
  have HL := Lib.hid fun W (hW : Ext w W) => Bxs.ext hW hl
  have HR := Lib.hid fun W (hW : Ext w W) => Sights.ext hW hr
  obtain ⟨ic, hic, hc0, hc1, hc2⟩ := info_parts info_box
  obtain ⟨T, hT⟩ : ∃ T, filtL s tick r l = T := ⟨_, rfl⟩
  have hTl : T.length ≤ 2000 := by
    have h1 : T.length ≤ l.length := by rw [← hT]; exact List.length_filter_le _ _
    have := hl.len
    omega
  have HT := Lib.hid hT
  rw [hT]
  clear hs hl hr hT
  go_enter Tryz.func107, Tryz.ntmps107
  go_wp2_with fail
  go_loopw [9, 10] (fun o i wr => ∃ (k : Nat) (acc : List Bx), k ≤ n ∧ i = .int .i64 k ∧ Hid (acc ++ filtL s tick r (l.drop k) = T) ∧ Hid (OwnBxs w.heap.size wr o acc) ∧ Hid (Blk wr w.heap.size 53 #[.slice A1 n1 c1, .int .i64 home, .slice A2 n2 c2, .slice A3 n3 c3]) ∧ Ext w wr) (fun _ i _ => n - (intOf i).toNat)
  case atStart => exact ⟨0, [], Nat.zero_le _, rfl, HT, OwnBxs.nil _ _, Blk.new _ _ _, Ext.alloc0 _ _⟩
  case round =>
    clear HT
    obtain ⟨k, acc, hk, rfl, HI, HO, B4, E⟩ := hrel
    have hz := E.size
    by_cases hlt : k < n
    · obtain ⟨b, off, x, rfl, HD, _, hx⟩ := (HL.out wr E).one hlt
      have hi := HI.out
      have hlen := congrArg List.length hi
      rw [List.length_append] at hlen
      rw [HD.out, filtL, List.filter_cons] at hi
      have HBX := Lib.hid hx
      clear HI HD hx
      obtain ⟨wo, rfl⟩ : ∃ wo : World, wo = wr := ⟨_, rfl⟩
      obtain ⟨R, hR⟩ : ∃ R, filtB s tick r x = R := ⟨_, rfl⟩
      rw [hR] at hi
      have HRR := Lib.hid hR
      have Hi := Lib.hid hi
      have c4 := B4.out.cell
      have l4 := B4.out.lt
      clear hi hR
      go_wp2_with fail
      go_loopw [11, 12] (fun ex kv wr => ∃ (j : Nat) (f : Bool), j ≤ m ∧ ex = .bool f ∧ kv = .int .i64 j ∧ Hid ((f || (r.drop j).any (hitB s tick x)) = R) ∧ Ext wo wr) (fun _ kv _ => m - (intOf kv).toNat)
      case atStart => exact ⟨0, false, Nat.zero_le _, rfl, rfl, Lib.hid (by simpa [filtB] using HRR.out), Ext.refl _⟩
      case round =>
        clear HRR
        obtain ⟨j, f, hj, rfl, rfl, HJ, hb⟩ := hrel
        have E2 := E.trans hb
        by_cases hjm : j < m
        · obtain ⟨b2, off2, y, rfl, HD2, _, hy⟩ := (HR.out wr E2).one hjm
          obtain ⟨hx0, hx1, hx2, hx3, hx4, hx5, hx6, hx7⟩ := bxAt.ext hb HBX.out
          obtain ⟨hy0, hy1, hy2, hy3, hy4, hy5, hy6, hy7, hy8⟩ := hy
          have hbl : b < wr.heap.size := World.block_lt_of_cell? wr _ hx0
          have hbl2 : b2 < wr.heap.size := World.block_lt_of_cell? wr _ hy0
          have hj2 := HJ.out
          rw [HD2.out, List.any_cons] at hj2
          have HXX := Lib.hid fun W (hW : Ext w W) => HX.out y x.x.lo x.x.hi x.y.lo x.y.hi W hW
          change Hid (∀ W, Ext w W → Calls _ _ _ W fun e w' => e = .returned (.bool (exclAll s y x.x.lo x.x.hi x.y.lo x.y.hi)) ∧ _) at HXX
          rw [show hitB s tick x y = (decide (y.tick = tick) && exclAll s y x.x.lo x.x.hi x.y.lo x.y.hi) from rfl] at hj2
          clear HJ HD2
          cases f
          · by_cases hq : y.tick = tick
            · have hj3 : Hid ((exclAll s y x.x.lo x.x.hi x.y.lo x.y.hi || (r.drop (j + 1)).any (hitB s tick x)) = R) := by
                rw [decide_eq_true hq, Bool.true_and, Bool.false_or] at hj2
                exact hj2
              generalize exclAll s y x.x.lo x.x.hi x.y.lo x.y.hi = G at *
              clear hj2 HBX
              obtain ⟨kind, st, cat, tk, dx, dy, er, lo, hi'⟩ := y
              obtain ⟨⟨xl, xh⟩, ⟨yl, yh⟩, ⟨ul, uh⟩, vl, vh⟩ := x
              dsimp only at *
              subst hq
              have hs4 : wr.cell? ⟨w.heap.size, 0, none⟩ = some (.slice A1 n1 c1) ∧ wr.cell? ⟨w.heap.size, 1, none⟩ = some (.int .i64 home) ∧ wr.cell? ⟨w.heap.size, 2, none⟩ = some (.slice A2 n2 c2) ∧ wr.cell? ⟨w.heap.size, 3, none⟩ = some (.slice A3 n3 c3) := by
                have h := (B4.out.ext hb).cell
                exact ⟨h 0, h 1, h 2, h 3⟩
              obtain ⟨s0, s1, s2, s3⟩ := hs4
              have l5 : w.heap.size < wr.heap.size := Nat.lt_of_lt_of_le l4 hb.size
              clear c4 l4
              go_wp2_with fail
              refine wp_region_text (by kernel_rfl) (by kernel_rfl) ?_
              (repeat' (first | (refine bl_off (by rfl) ?_; simp only [Act.put, List.setIfInBounds_toArray, List.set_cons_zero, List.set_cons_succ]) | (apply bl_op; rfl; (intro w1 h1; obtain ⟨hc, hf, hz⟩ := bcell h1; go_simp; (try go_bits); (first | exact ⟨rfl, Ext.refl _⟩ | (apply gives_call; go_at_call 142; exact HXX.out _ (by (repeat' (first | exact Ext.refl _ | assumption | apply Ext.alloc | apply Ext.drew | refine Ext.set ?_ (by dsimp only; omega) _ | refine Ext.trans ?_ (by assumption))))) | (go_invoke; go_simp; apply gives_call; go_at_call 142; exact HXX.out _ (by (repeat' (first | exact Ext.refl _ | assumption | apply Ext.alloc | apply Ext.drew | refine Ext.set ?_ (by dsimp only; omega) _ | refine Ext.trans ?_ (by assumption))))))); simp only [Act.put, List.setIfInBounds_toArray, List.set_cons_zero, List.set_cons_succ]) | (refine bl_split rfl rfl (fun hx => ?_) (fun hx => ?_) <;> simp only [hx])))
              refine bl_nil ?_
              intro w9 h9
              obtain ⟨hc_w9, hf_w9, hz_w9⟩ := bcell h9; (repeat (first | rw [World.size_alloc] at hz_w9 | rw [World.size_drew] at hz_w9 | rw [World.size_setCell] at hz_w9)); (try (have : w.heap.size < w9.heap.size := (by omega))); (try (have : w.heap.size + 1 < w9.heap.size := (by omega))); (try (have : w.heap.size + 1 + 1 < w9.heap.size := (by omega))); (try (have : w.heap.size + 1 + 1 + 1 < w9.heap.size := (by omega))); (try (have : w.heap.size + 1 + 1 + 1 + 1 < w9.heap.size := (by omega)))
              go_wp2_with fail
              go_roundw
              case rel => exact ⟨j + 1, G, by omega, rfl, by go_num, hj3, hb.trans h9⟩
              case measure => simp [intOf]; omega
            · have hd : decide (y.tick = tick) = false := by simpa using hq
              have hj3 : Hid ((false || (r.drop (j + 1)).any (hitB s tick x)) = R) := by
                rw [hd, Bool.false_and, Bool.false_or] at hj2
                exact hj2
              have hd2 : (y.tick == tick) = false := by simpa using hq
              clear hj2 HXX HBX
              obtain ⟨kind, st, cat, tk, dx, dy, er, lo, hi'⟩ := y
              obtain ⟨⟨xl, xh⟩, ⟨yl, yh⟩, ⟨ul, uh⟩, vl, vh⟩ := x
              dsimp only at *
              go_wp2_with fail
              refine wp_region_text (by kernel_rfl) (by kernel_rfl) ?_
              (repeat' (first | (refine bl_off (by rfl) ?_; simp only [Act.put, List.setIfInBounds_toArray, List.set_cons_zero, List.set_cons_succ]) | (apply bl_op; rfl; (intro w1 h1; obtain ⟨hc, hf, hz⟩ := bcell h1; go_simp; (try go_bits); (first | exact ⟨rfl, Ext.refl _⟩)); simp only [Act.put, List.setIfInBounds_toArray, List.set_cons_zero, List.set_cons_succ]) | (refine bl_split rfl rfl (fun hx => ?_) (fun hx => ?_) <;> simp only [hx])))
              refine bl_nil ?_
              intro w9 h9
              obtain ⟨hc_w9, hf_w9, hz_w9⟩ := bcell h9; (repeat (first | rw [World.size_alloc] at hz_w9 | rw [World.size_drew] at hz_w9 | rw [World.size_setCell] at hz_w9)); (try (have : w.heap.size < w9.heap.size := (by omega))); (try (have : w.heap.size + 1 < w9.heap.size := (by omega))); (try (have : w.heap.size + 1 + 1 < w9.heap.size := (by omega))); (try (have : w.heap.size + 1 + 1 + 1 < w9.heap.size := (by omega))); (try (have : w.heap.size + 1 + 1 + 1 + 1 < w9.heap.size := (by omega)))
              go_wp2_with fail
              go_roundw
              case rel => exact ⟨j + 1, false, by omega, rfl, by go_num, hj3, hb.trans h9⟩
              case measure => simp [intOf]; omega
          · have hj3 : Hid ((true || (r.drop (j + 1)).any (hitB s tick x)) = R) := by simpa [Hid] using hj2
            clear hj2 HXX HBX
            obtain ⟨kind, st, cat, tk, dx, dy, er, lo, hi'⟩ := y
            obtain ⟨⟨xl, xh⟩, ⟨yl, yh⟩, ⟨ul, uh⟩, vl, vh⟩ := x
            dsimp only at *
            go_wp2_with fail
            refine wp_region_text (by kernel_rfl) (by kernel_rfl) ?_
            (repeat' (first | (refine bl_off (by rfl) ?_; simp only [Act.put, List.setIfInBounds_toArray, List.set_cons_zero, List.set_cons_succ]) | (apply bl_op; rfl; (intro w1 h1; obtain ⟨hc, hf, hz⟩ := bcell h1; go_simp; (try go_bits); (first | exact ⟨rfl, Ext.refl _⟩)); simp only [Act.put, List.setIfInBounds_toArray, List.set_cons_zero, List.set_cons_succ]) | (refine bl_split rfl rfl (fun hx => ?_) (fun hx => ?_) <;> simp only [hx])))
            refine bl_nil ?_
            intro w9 h9
            obtain ⟨hc_w9, hf_w9, hz_w9⟩ := bcell h9; (repeat (first | rw [World.size_alloc] at hz_w9 | rw [World.size_drew] at hz_w9 | rw [World.size_setCell] at hz_w9)); (try (have : w.heap.size < w9.heap.size := (by omega))); (try (have : w.heap.size + 1 < w9.heap.size := (by omega))); (try (have : w.heap.size + 1 + 1 < w9.heap.size := (by omega))); (try (have : w.heap.size + 1 + 1 + 1 < w9.heap.size := (by omega))); (try (have : w.heap.size + 1 + 1 + 1 + 1 < w9.heap.size := (by omega)))
            go_wp2_with fail
            go_roundw
            case rel => exact ⟨j + 1, true, by omega, rfl, by go_num, hj3, hb.trans h9⟩
            case measure => simp [intOf]; omega
        · have hjm' : j = m := by omega
          have hj2 := HJ.out
          rw [hjm', HRn.out, List.drop_length, List.any_nil, Bool.or_false] at hj2
          subst hj2
          obtain ⟨hx0, hx1, hx2, hx3, hx4, hx5, hx6, hx7⟩ := bxAt.ext hb HBX.out
          have hbl : b < wr.heap.size := World.block_lt_of_cell? wr _ hx0
          have B4' := Lib.hid (B4.out.ext hb)
          have HO' := Lib.hid (OwnBxs.ext HO.out hb)
          have hzz := E2.size
          have hi := Hi.out
          clear HJ HBX c4 l4 B4 HO Hi
          obtain ⟨⟨xl, xh⟩, ⟨yl, yh⟩, ⟨ul, uh⟩, vl, vh⟩ := x
          dsimp only at hx0 hx1 hx2 hx3 hx4 hx5 hx6 hx7
          cases f
          · have Hi2 : Hid ((acc ++ [⟨⟨xl, xh⟩, ⟨yl, yh⟩, ⟨ul, uh⟩, vl, vh⟩]) ++ filtL s tick r (l.drop (k + 1)) = T) := by
              rw [if_pos (by decide)] at hi
              rw [List.append_assoc]
              exact hi
            clear hi
            go_wp2_with (at_builtin; go_loud (refine wpList_append_sl rfl (.tmp 56) (.tmp 61) 39 rfl w.heap.size 38 ic _ 8 64 Tryz.underlying39 hic hc0 hc1 hc2 rfl (by decide) _ acc.length (acc.flatMap bxC) rfl (own_ext_keep HO'.out (by (repeat' (first | exact Ext.refl _ | assumption | apply Ext.alloc | apply Ext.drew | refine Ext.set ?_ (by dsimp only; omega) _ | refine Ext.trans ?_ (by assumption))))) (some ⟨_, 0, none⟩) 1 1 [.int .i64 xl, .int .i64 xh, .int .i64 yl, .int .i64 yh, .int .i64 ul, .int .i64 uh, .int .i64 vl, .int .i64 vh] rfl rfl (.inr ⟨_, rfl, new_cells (by simp)⟩) (by simp [Value.oneCell']) (by unfold maxLen; omega) (by omega) (by simp only [World.size_alloc]; omega) ?_))
            intro v' w6 ho6 hg6 _
            have hnb := own_blk (own_ext_keep HO'.out (Ext.alloc0 wr (.cells #[.int .i64 xl, .int .i64 xh, .int .i64 yl, .int .i64 yh, .int .i64 ul, .int .i64 uh, .int .i64 vl, .int .i64 vh] 38))) (B4'.out.alloc _) (by decide)
            have B6 := Lib.hid ((B4'.out.alloc _).grown hg6 hnb)
            obtain ⟨ho, he⟩ := own_app (w0 := w) (OwnBxs.ext HO'.out (Ext.alloc0 wr _)) (E2.alloc _) (Nat.le_refl _) (show 1 = [(⟨⟨xl, xh⟩, ⟨yl, yh⟩, ⟨ul, uh⟩, vl, vh⟩ : Bx)].length from rfl) ho6 hg6
            have HO6 := Lib.hid ho
            clear ho ho6 hg6 HO' hnb
            go_wp2_with fail
            go_roundw
            case rel => exact ⟨k + 1, _, by omega, by go_num, Hi2, HO6, B6, he⟩
            case measure => simp [intOf]; omega
          · have Hi2 : Hid (acc ++ filtL s tick r (l.drop (k + 1)) = T) := by
              rw [if_neg (by decide)] at hi
              exact hi
            clear hi
            go_wp2_with fail
            go_roundw
            case rel => exact ⟨k + 1, _, by omega, by go_num, Hi2, HO', B4', E2⟩
            case measure => simp [intOf]; omega
    · have hkn : k = n := by omega
      subst hkn
      have hi := HI.out
      rw [HLn.out, List.drop_length] at hi
      have Hi : Hid (acc = T) := Lib.hid (by simpa [filtL] using hi)
      clear hi HI HLn
      go_wp2_with fail
      go_ret
      exact ⟨_, rfl, by rw [← Hi.out]; exact HO.out, E⟩
end Go.Proofs.YtfniicgoeljmdaaGreat
