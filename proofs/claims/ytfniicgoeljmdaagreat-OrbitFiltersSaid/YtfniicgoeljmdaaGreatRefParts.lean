/- Sets that are filtered, split and refined, or which error: the reference. No condition. -/
import Derived.Test.YtfniicgoeljmdaaGreatRefFilter
import Derived.Test.YtfniicgoeljmdaaGreatRefine
import Derived.Test.YtfniicgoeljmdaaGreatRefSplitAll
namespace Go.Proofs.YtfniicgoeljmdaaGreat
open Go.RowKit

set_option maxRecDepth 4000 in
set_option maxHeartbeats 1000000 in
theorem rCheckSights_c (A1 : Option Addr) (n1 c1 : Nat) (home : Int) (A2 : Option Addr) (n2 c2 : Nat) (A3 : Option Addr) (n3 c3 : Nat) (s : Sky) (A : Option Addr) (n c : Nat) (l : List Sight) (w : World) (hs : IsSky w A1 n1 home A2 n2 A3 n3 s) (hl : Sights w A n l) :
    Calls Tryz.prog 114 #[.agg #[.slice A1 n1 c1, .int .i64 home, .slice A2 n2 c2, .slice A3 n3 c3], .slice A n c] w fun e w' => e = .returned (.int .i64 (sgsErr s l)) ∧ Ext w w' := by
  have hn := hl.le
  have HS := Lib.hid fun (x : Sight) W (hW : Ext w W) => refCheckSight_c A1 n1 c1 home A2 n2 c2 A3 n3 c3 s x.kind x.station x.catalog x.tick x.dx x.dy x.err x.lo x.hi W (hs.ext hW)
  have HLn := Lib.hid hl.len
  have HL := Lib.hid fun W (hW : Ext w W) => Sights.ext hW hl
  obtain ⟨T, hT⟩ : ∃ T, sgsErr s l = T := ⟨_, rfl⟩
  rw [hT]
  unfold sgsErr at hT
  have HG := Lib.hid hT
  clear hT
  clear hs hl
  by_cases h64 : 64 < n
  · have HT : Hid (T = 8) := by have := HG.out; rw [if_pos (by rw [← HLn.out]; exact h64)] at this; exact this.symm
    go_enter Tryz.func114, Tryz.ntmps114
    go_wp2_with fail
    go_ret
    exact ⟨ret_i (by rw [HT.out]), by (repeat' (first | exact Ext.refl _ | assumption | apply Ext.alloc | apply Ext.drew | refine Ext.set ?_ (by dsimp only; omega) _ | refine Ext.trans ?_ (by assumption)))⟩
  · have HT : Hid (T = sgsFrom s l) := by have := HG.out; rw [if_neg (by rw [← HLn.out]; exact h64)] at this; exact this.symm
    clear HG
    go_enter Tryz.func114, Tryz.ntmps114
    go_wp2_with fail
    go_loopw [5] (fun i wr => ∃ k : Nat, k ≤ n ∧ i = .int .i64 k ∧ Hid (sgsFrom s (l.drop k) = T) ∧ Ext (w.alloc (.cells #[.slice A1 n1 c1, .int .i64 home, .slice A2 n2 c2, .slice A3 n3 c3] 53)) wr) (fun i _ => n - (intOf i).toNat)
    case atStart => exact ⟨0, Nat.zero_le _, rfl, Lib.hid HT.out.symm, Ext.refl _⟩
    case round =>
      obtain ⟨k, hk, rfl, HI, hb⟩ := hrel
      obtain ⟨hcb, hfb, hzb⟩ := bcell hb
      simp only [World.size_alloc] at hzb
      have hz1 : w.heap.size < wr.heap.size := by omega
      have E : Ext w wr := (Ext.alloc0 _ _).trans hb
      by_cases hlt : k < n
      · obtain ⟨b, off, x, rfl, HD, hxm, hx⟩ := (HL.out wr E).one hlt
        have HX := Lib.hid fun W (hW : Ext wr W) => HS.out x W (E.trans hW)
        change Hid (∀ W, Ext wr W → Calls _ _ _ W fun e w' => e = .returned (.int .i64 (sightErr2 s x)) ∧ _) at HX
        obtain ⟨hx0, hx1, hx2, hx3, hx4, hx5, hx6, hx7, hx8⟩ := hx
        have hi := HI.out
        rw [HD.out, sgsFrom] at hi
        clear HI HD hxm
        generalize sightErr2 s x = M at *
        obtain ⟨kind, st, cat, tk, dx, dy, er, lo, hi'⟩ := x
        dsimp only at hx0 hx1 hx2 hx3 hx4 hx5 hx6 hx7 hx8 HX
        have hbl : b < wr.heap.size := World.block_lt_of_cell? wr _ hx0
        by_cases h0 : M = 0
        · subst h0
          rw [if_pos rfl] at hi
          have Hi := Lib.hid hi
          clear hi
          go_wp2_with fail
          refine wp_region_text (by kernel_rfl) (by kernel_rfl) ?_
          (repeat' (first | (refine bl_off (by rfl) ?_; simp only [Act.put, List.setIfInBounds_toArray, List.set_cons_zero, List.set_cons_succ]) | (apply bl_op; rfl; (intro w1 h1; obtain ⟨hc, hf, hz⟩ := bcell h1; go_simp; (try go_bits); (first | exact ⟨rfl, Ext.refl _⟩ | (apply gives_call; go_at_call 148; exact HX.out _ (by (repeat' (first | exact Ext.refl _ | assumption | apply Ext.alloc | apply Ext.drew | refine Ext.set ?_ (by dsimp only; omega) _ | refine Ext.trans ?_ (by assumption))))) | (go_invoke; go_simp; apply gives_call; go_at_call 148; exact HX.out _ (by (repeat' (first | exact Ext.refl _ | assumption | apply Ext.alloc | apply Ext.drew | refine Ext.set ?_ (by dsimp only; omega) _ | refine Ext.trans ?_ (by assumption))))))); simp only [Act.put, List.setIfInBounds_toArray, List.set_cons_zero, List.set_cons_succ]) | (refine bl_split rfl rfl (fun hx => ?_) (fun hx => ?_) <;> simp only [hx])))
          refine bl_nil ?_
          intro w1 h1
          obtain ⟨hc_w1, hf_w1, hz_w1⟩ := bcell h1; (repeat (first | rw [World.size_alloc] at hz_w1 | rw [World.size_drew] at hz_w1 | rw [World.size_setCell] at hz_w1)); (try (have : w.heap.size < w1.heap.size := (by omega))); (try (have : w.heap.size + 1 < w1.heap.size := (by omega))); (try (have : w.heap.size + 1 + 1 < w1.heap.size := (by omega))); (try (have : w.heap.size + 1 + 1 + 1 < w1.heap.size := (by omega))); (try (have : w.heap.size + 1 + 1 + 1 + 1 < w1.heap.size := (by omega)))
          go_wp2_with fail
          have E1 : Ext wr w1 := h1
          clear h1
          go_roundw
          case rel => exact ⟨k + 1, by omega, by go_num, Hi, hb.trans E1⟩
          case measure => simp [intOf]; omega
        · rw [if_neg h0] at hi
          have Hi := Lib.hid hi
          clear hi
          go_wp2_with fail
          refine wp_region_text (by kernel_rfl) (by kernel_rfl) ?_
          (repeat' (first | (refine bl_off (by rfl) ?_; simp only [Act.put, List.setIfInBounds_toArray, List.set_cons_zero, List.set_cons_succ]) | (apply bl_op; rfl; (intro w1 h1; obtain ⟨hc, hf, hz⟩ := bcell h1; go_simp; (try go_bits); (first | exact ⟨rfl, Ext.refl _⟩ | (apply gives_call; go_at_call 148; exact HX.out _ (by (repeat' (first | exact Ext.refl _ | assumption | apply Ext.alloc | apply Ext.drew | refine Ext.set ?_ (by dsimp only; omega) _ | refine Ext.trans ?_ (by assumption))))) | (go_invoke; go_simp; apply gives_call; go_at_call 148; exact HX.out _ (by (repeat' (first | exact Ext.refl _ | assumption | apply Ext.alloc | apply Ext.drew | refine Ext.set ?_ (by dsimp only; omega) _ | refine Ext.trans ?_ (by assumption))))))); simp only [Act.put, List.setIfInBounds_toArray, List.set_cons_zero, List.set_cons_succ]) | (refine bl_split rfl rfl (fun hx => ?_) (fun hx => ?_) <;> simp only [hx])))
          refine bl_nil ?_
          intro w1 h1
          obtain ⟨hc_w1, hf_w1, hz_w1⟩ := bcell h1; (repeat (first | rw [World.size_alloc] at hz_w1 | rw [World.size_drew] at hz_w1 | rw [World.size_setCell] at hz_w1)); (try (have : w.heap.size < w1.heap.size := (by omega))); (try (have : w.heap.size + 1 < w1.heap.size := (by omega))); (try (have : w.heap.size + 1 + 1 < w1.heap.size := (by omega))); (try (have : w.heap.size + 1 + 1 + 1 < w1.heap.size := (by omega))); (try (have : w.heap.size + 1 + 1 + 1 + 1 < w1.heap.size := (by omega)))
          go_wp2_with fail
          have E1 : Ext wr w1 := h1
          clear h1
          go_ret
          exact ⟨ret_i Hi.out, E.trans E1⟩
      · have hkn : k = n := by omega
        subst hkn
        have hi := HI.out
        rw [HLn.out, List.drop_length] at hi
        have Hi : Hid (0 = T) := hi
        clear hi HI
        go_wp2_with fail
        go_ret
        exact ⟨ret_i Hi.out, E⟩
set_option maxRecDepth 20000 in
set_option maxHeartbeats 4000000 in
theorem rParts_c (A : Option Addr) (n c : Nat) (l : List Bx) (w : World) (hl : Bxs w A n l) (hn : n ≤ 2000) :
    Calls Tryz.prog 109 #[.slice A n c] w fun e w' => ∃ v, e = .returned v ∧ OwnBxs w.heap.size w' v (halfL l) ∧ Ext w w' := by
  have HLn := Lib.hid hl.len
  have HL := Lib.hid fun W (hW : Ext w W) => Bxs.ext hW hl
  obtain ⟨ic, hic, hc0, hc1, hc2⟩ := info_parts info_box
  have HK := Lib.hid fun x W => rSplit_c x W
  obtain ⟨T, hT⟩ : ∃ T, halfL l = T := ⟨_, rfl⟩
  have hTl : T.length ≤ 4000 := by rw [← hT]; have := half_len l; have := hl.len; omega
  have HT := Lib.hid hT
  rw [hT]
  clear hl hT
  go_enter Tryz.func109, Tryz.ntmps109
  go_wp2_with fail
  go_loopw [3, 4] (fun o i wr => ∃ (k : Nat) (acc : List Bx), k ≤ n ∧ i = .int .i64 k ∧ Hid (acc ++ halfL (l.drop k) = T) ∧ Hid (OwnBxs w.heap.size wr o acc) ∧ Ext w wr) (fun _ i _ => n - (intOf i).toNat)
  case atStart => exact ⟨0, [], Nat.zero_le _, rfl, Lib.hid HT.out, OwnBxs.nil _ _, Ext.refl _⟩
  case round =>
    obtain ⟨k, acc, hk, rfl, HI, HO, E⟩ := hrel
    have hz := E.size
    by_cases hlt : k < n
    · obtain ⟨b, off, x, rfl, HD, _, hx⟩ := (HL.out wr E).one hlt
      have hi := HI.out
      have hlen := congrArg List.length hi
      rw [List.length_append] at hlen
      rw [HD.out, halfL, List.flatMap_cons, ← halfL, ← List.append_assoc] at hi
      have HBX := Lib.hid hx
      obtain ⟨hx0, hx1, hx2, hx3, hx4, hx5, hx6, hx7⟩ := hx
      have hbl : b < wr.heap.size := World.block_lt_of_cell? wr _ hx0
      have HX := Lib.hid fun W => HK.out x W
      unfold splitV at HX
      unfold halfB at hi
      clear HI HD
      cases hs : splitOk x
      · rw [hs] at hi HX
        simp only [Bool.false_eq_true, if_false] at hi HX
        have Hi := Lib.hid hi
        clear hi hs
        obtain ⟨⟨xl, xh⟩, ⟨yl, yh⟩, ⟨ul, uh⟩, vl, vh⟩ := x
        dsimp only [bxV, zeroB] at hx0 hx1 hx2 hx3 hx4 hx5 hx6 hx7 HX
        go_wp2_with fail
        refine (HX.out _).mono ?_
        rintro e w5 ⟨rfl, h5⟩
        have E5 : Ext wr w5 := h5
        obtain ⟨hy0, hy1, hy2, hy3, hy4, hy5, hy6, hy7⟩ := bxAt.ext h5 HBX.out
        have hbl5 : b < w5.heap.size := Nat.lt_of_lt_of_le hbl h5.size
        dsimp only at hy0 hy1 hy2 hy3 hy4 hy5 hy6 hy7
        have HO5 := Lib.hid (OwnBxs.ext HO.out E5)
        have hz5 := E5.size
        have EE := E.trans E5
        clear h5 HO hx0 hx1 hx2 hx3 hx4 hx5 hx6 hx7 hbl E5
        go_wp2_with (at_builtin; go_loud (refine wpList_append_sl rfl (.tmp 29) (.tmp 34) 39 rfl w.heap.size 38 ic _ 8 64 Tryz.underlying39 hic hc0 hc1 hc2 rfl (by decide) _ acc.length (acc.flatMap bxC) rfl (own_ext_keep HO5.out (by (repeat' (first | exact Ext.refl _ | assumption | apply Ext.alloc | apply Ext.drew | refine Ext.set ?_ (by dsimp only; omega) _ | refine Ext.trans ?_ (by assumption))))) (some ⟨_, 0, none⟩) 1 1 [.int .i64 xl, .int .i64 xh, .int .i64 yl, .int .i64 yh, .int .i64 ul, .int .i64 uh, .int .i64 vl, .int .i64 vh] rfl rfl (.inr ⟨_, rfl, new_cells (by simp)⟩) (by simp [Value.oneCell']) (by unfold maxLen; omega) (by omega) (by simp only [World.size_alloc]; omega) ?_))
        intro v' w6 ho6 hg6 _
        obtain ⟨ho, he⟩ := own_app (w0 := w) (OwnBxs.ext HO5.out ((((Ext.refl w5).alloc _).alloc _).alloc _)) (((EE.alloc _).alloc _).alloc _) (Nat.le_refl _) (show 1 = [(⟨⟨xl, xh⟩, ⟨yl, yh⟩, ⟨ul, uh⟩, vl, vh⟩ : Bx)].length from rfl) ho6 hg6
        have HO6 := Lib.hid ho
        clear ho ho6 hg6 HO5 EE
        go_wp2_with fail
        go_roundw
        case rel => exact ⟨k + 1, _, by omega, by go_num, Hi, HO6, he⟩
        case measure => simp [intOf]; omega
      · rw [hs] at hi HX
        simp only [if_true] at hi HX
        have Hi := Lib.hid hi
        clear hi hs
        generalize partL x = L at *
        generalize partR x = R at *
        obtain ⟨⟨xl, xh⟩, ⟨yl, yh⟩, ⟨ul, uh⟩, vl, vh⟩ := x
        obtain ⟨⟨lxl, lxh⟩, ⟨lyl, lyh⟩, ⟨lul, luh⟩, lvl, lvh⟩ := L
        obtain ⟨⟨rxl, rxh⟩, ⟨ryl, ryh⟩, ⟨rul, ruh⟩, rvl, rvh⟩ := R
        dsimp only [bxV] at hx0 hx1 hx2 hx3 hx4 hx5 hx6 hx7 HX
        go_wp2_with fail
        refine (HX.out _).mono ?_
        rintro e w5 ⟨rfl, h5⟩
        have E5 : Ext wr w5 := h5
        have HO5 := Lib.hid (OwnBxs.ext HO.out E5)
        have hz5 := E5.size
        have EE := E.trans E5
        clear h5 HO hx0 hx1 hx2 hx3 hx4 hx5 hx6 hx7 hbl E5
        go_wp2_with (at_builtin; go_loud (refine wpList_append_sl rfl (.tmp 24) (.tmp 27) 39 rfl w.heap.size 38 ic _ 8 64 Tryz.underlying39 hic hc0 hc1 hc2 rfl (by decide) _ acc.length (acc.flatMap bxC) rfl (own_ext_keep HO5.out (by (repeat' (first | exact Ext.refl _ | assumption | apply Ext.alloc | apply Ext.drew | refine Ext.set ?_ (by dsimp only; omega) _ | refine Ext.trans ?_ (by assumption))))) (some ⟨_, 0, none⟩) 2 2 [.int .i64 lxl, .int .i64 lxh, .int .i64 lyl, .int .i64 lyh, .int .i64 lul, .int .i64 luh, .int .i64 lvl, .int .i64 lvh, .int .i64 rxl, .int .i64 rxh, .int .i64 ryl, .int .i64 ryh, .int .i64 rul, .int .i64 ruh, .int .i64 rvl, .int .i64 rvh] rfl rfl (.inr ⟨_, rfl, new_cells (by simp)⟩) (by simp [Value.oneCell']) (by unfold maxLen; omega) (by omega) (by simp only [World.size_alloc]; omega) ?_))
        intro v' w6 ho6 hg6 _
        obtain ⟨ho, he⟩ := own_app (w0 := w) (OwnBxs.ext HO5.out ((((Ext.refl w5).alloc _).alloc _).alloc _)) (((EE.alloc _).alloc _).alloc _) (Nat.le_refl _) (show 2 = [(⟨⟨lxl, lxh⟩, ⟨lyl, lyh⟩, ⟨lul, luh⟩, lvl, lvh⟩ : Bx), ⟨⟨rxl, rxh⟩, ⟨ryl, ryh⟩, ⟨rul, ruh⟩, rvl, rvh⟩].length from rfl) ho6 hg6
        have HO6 := Lib.hid ho
        clear ho ho6 hg6 HO5 EE
        go_wp2_with fail
        go_roundw
        case rel => exact ⟨k + 1, _, by omega, by go_num, Hi, HO6, he⟩
        case measure => simp [intOf]; omega
    · have hkn : k = n := by omega
      subst hkn
      have hi := HI.out
      rw [HLn.out, List.drop_length] at hi
      have Hi : Hid (acc = T) := Lib.hid (by simpa [halfL] using hi)
      clear hi HI HLn
      go_wp2_with fail
      go_ret
      exact ⟨_, rfl, by rw [← Hi.out]; exact HO.out, E⟩
end Go.Proofs.YtfniicgoeljmdaaGreat
