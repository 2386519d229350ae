/- All boxes of a set, stepped: the reference. No condition. A set after some ticks: the reference. No condition. -/
import Derived.Test.YtfniicgoeljmdaaGreatProp
import Derived.Test.YtfniicgoeljmdaaGreatRefStep
import Derived.Test.YtfniicgoeljmdaaGreatPropagate
namespace Go.Proofs.YtfniicgoeljmdaaGreat
open Go.RowKit

set_option maxRecDepth 20000 in
set_option maxHeartbeats 4000000 in
theorem rSteps_c (A : Option Addr) (n c : Nat) (home : Int) (l : List Body) (d : Drf) (tick : Int) (B : Option Addr) (m e : Nat) (L : List Bx) (w : World) (hl : Bodies w A n l) (h1 : wdErr l home d = 0) (h2 : 0 ≤ tick ∧ tick ≤ 1073741824) (hL : Bxs w B m L) (hm : m ≤ 2000) (hv : ∀ b ∈ L, bxErr b = 0) :
    Calls Tryz.prog 79 #[.agg #[.slice A n c, .int .i64 home], .agg #[.int .i64 d.light.lo, .int .i64 d.light.hi, .int .i64 d.heat.lo, .int .i64 d.heat.hi, .int .i64 d.gas], .int .i64 tick, .slice B m e] w fun e w' =>
      ∃ v, e = .returned (.tuple #[v, .bool (allB (stepB l home d tick) L)]) ∧ OwnBxs w.heap.size w' v (if allB (stepB l home d tick) L then L.map (stepB l home d tick) else []) ∧ Ext w w' := by
  have HS := Lib.hid fun (b : Bx) (hb : bxErr b = 0) W (hW : Ext w W) => rStep0_c A n c home l d tick b W (Bodies.ext hW hl) h1 h2 hb
  have HLn := Lib.hid hL.len
  have HL := Lib.hid fun W (hW : Ext w W) => Bxs.ext hW hL
  have HV := Lib.hid hv
  obtain ⟨ic, hic, hc0, hc1, hc2⟩ := info_parts info_box
  generalize stepB l home d tick = f at *
  obtain ⟨K, hK⟩ : ∃ K, allB f L = K := ⟨_, rfl⟩
  obtain ⟨T, hT⟩ : ∃ T, L.map f = T := ⟨_, rfl⟩
  have hTl : T.length ≤ 2000 := by rw [← hT, List.length_map, ← hL.len]; exact hm
  rw [hK, hT]
  have HK := Lib.hid hK
  have HT := Lib.hid hT
  obtain ⟨⟨ll, lh⟩, ⟨hl', hh⟩, g⟩ := d
  dsimp only at HS ⊢
  clear hl h1 h2 hL hv hK hT
  go_enter Tryz.func79, Tryz.ntmps79
  go_wp2_with fail
  go_loopw [10, 11] (fun o i wr => ∃ (k : Nat) (acc : List Bx), k ≤ m ∧ i = .int .i64 k ∧ Hid (acc ++ (L.drop k).map f = T) ∧ Hid (allB f (L.drop k) = K) ∧ Hid (OwnBxs w.heap.size wr o acc) ∧ Hid (Blk wr w.heap.size 24 #[.slice A n c, .int .i64 home]) ∧ Hid (Blk wr (w.heap.size + 1) 28 #[.int .i64 ll, .int .i64 lh, .int .i64 hl', .int .i64 hh, .int .i64 g]) ∧ Ext w wr) (fun _ i _ => m - (intOf i).toNat)
  case atStart => exact ⟨0, [], Nat.zero_le _, rfl, Lib.hid HT.out, Lib.hid HK.out, OwnBxs.nil _ _, Lib.hid ((Blk.newAt rfl).alloc _), Lib.hid (Blk.newAt (by simp)), ext_by⟩
  case round =>
    obtain ⟨k, acc, hk, rfl, HI, HA, HO, B4, B5, E⟩ := hrel
    have hz := E.size
    by_cases hlt : k < m
    · obtain ⟨b, off, x, hB, HD, hxm, hx⟩ := (HL.out wr E).one hlt
      subst hB
      have hi := HI.out
      have ha := HA.out
      have hlen := congrArg List.length hi
      rw [List.length_append] at hlen
      rw [HD.out, List.map_cons] at hi
      rw [HD.out, allB, List.all_cons, ← allB] at ha
      obtain ⟨hx0, hx1, hx2, hx3, hx4, hx5, hx6, hx7⟩ := hx
      have hbl : b < wr.heap.size := World.block_lt_of_cell? wr _ hx0
      have HX := Lib.hid fun W (hW : Ext w W) => HS.out x (HV.out x hxm) W hW
      have HQ := Lib.hid fun W => rCheckBox_c (f x) W
      clear HI HA HD hxm
      generalize f x = y at *
      obtain ⟨Q, hQ⟩ : ∃ Q, bxErr y = Q := ⟨_, rfl⟩
      rw [hQ] at ha HQ
      have Hi := Lib.hid hi
      have Ha := Lib.hid ha
      clear hi ha hQ
      obtain ⟨⟨xl, xh⟩, ⟨yl, yh⟩, ⟨ul, uh⟩, vl, vh⟩ := x
      obtain ⟨⟨txl, txh⟩, ⟨tyl, tyh⟩, ⟨tul, tuh⟩, tvl, tvh⟩ := y
      dsimp only [bxV] at hx0 hx1 hx2 hx3 hx4 hx5 hx6 hx7 HX HQ
      have c4 := B4.out.cell
      have c5 := B5.out.cell
      have l4 := B4.out.lt
      have l5 := B5.out.lt
      go_wp2_with fail
      refine wp_region_chain1 true [] [0, 1, 2, 3, 4, 5, 6, 7] 8 [9] (Ext _) (Ext _) _ (w.heap.size) 38 #[.int .i64 0, .int .i64 0, .int .i64 0, .int .i64 0, .int .i64 0, .int .i64 0, .int .i64 0, .int .i64 0] (Stable.ext _) (fun _ h => h) (Ext.drew (Ext.refl _)) (by kernel_rfl) (by kernel_rfl) rfl (fun a w => by simp only [pick1, List.drop_succ_cons, List.drop_zero]; go_simp) (fun w h => ⟨h.size, Nat.lt_of_lt_of_le (by omega) h.size⟩) ?_; simp only [XO, pick, List.drop_succ_cons, List.drop_zero]; (repeat' (first | (refine bl_off (by rfl) ?_; simp only [putX]) | (apply bl_op; rfl; (intro w1 h1; obtain ⟨hc, hf, hz⟩ := bcell h1; go_simp; (try go_bits); (first | exact ⟨rfl, Ext.refl _⟩ | (apply gives_call; go_at_call 74; exact HX.out _ ext_by) | (go_invoke; go_simp; apply gives_call; go_at_call 74; exact HX.out _ ext_by))); simp only [putX]) | (refine bl_split rfl rfl (fun hx => ?_) (fun hx => ?_) <;> simp only [hx]))); refine bl_nil ?_; intro b9 hb_b9 hg_b9; (try simp only [pick1, List.drop_succ_cons, List.drop_zero]); (try simp only [List.setIfInBounds_toArray, List.set_cons_zero, List.set_cons_succ]); refine tl_last rfl rfl (fun wx ⟨hx, hBx⟩ => ?_); have hcB := hBx.cell; have hfB := hBx.frozen; have hlB := hBx.lt; refine ⟨putC b9 wx 0 [.int .i64 txl, .int .i64 txh, .int .i64 tyl, .int .i64 tyh, .int .i64 tul, .int .i64 tuh, .int .i64 tvl, .int .i64 tvh], (by simp only [putC, Nat.reduceAdd]; go_simp; try rfl), ?_⟩; have q0 := Blk.putAt (l := [.int .i64 txl, .int .i64 txh, .int .i64 tyl, .int .i64 tyh, .int .i64 tul, .int .i64 tuh, .int .i64 tvl, .int .i64 tvh]) hBx rfl; have p0 := Ext.putC (b := b9) (by omega) [.int .i64 txl, .int .i64 txh, .int .i64 tyl, .int .i64 tyh, .int .i64 tul, .int .i64 tuh, .int .i64 tvl, .int .i64 tvh] 0 hx; revert q0 p0; clear hcB hfB hBx hlB hx; generalize putC _ _ _ _ = w5; intro hB_b9 hE_w5
      have EE5 := E.trans hE_w5
      have HO5 := Lib.hid (OwnBxs.ext HO.out hE_w5)
      have C4 := B4.out.ext hE_w5
      have C5 := B5.out.ext hE_w5
      clear HO hx0 hx1 hx2 hx3 hx4 hx5 hx6 hx7 hbl c4 c5 l4 l5 HX B4 B5 hE_w5
      have c_hB_b9 := hB_b9.cell; have f_hB_b9 := hB_b9.frozen; have l_hB_b9 := hB_b9.lt
      go_wp2_with fail
      refine (HQ.out _).mono ?_
      rintro e w6 ⟨rfl, h6⟩
      have EE := EE5.trans h6
      have hz6 := EE.size
      have HO6 := Lib.hid (OwnBxs.ext HO5.out h6)
      have D4 := C4.ext h6
      have D5 := C5.ext h6
      have D9 := hB_b9.ext h6
      clear c_hB_b9 f_hB_b9 l_hB_b9
      clear h6 HO5 C4 C5 hB_b9 EE5 HQ
      have c_D9 := D9.cell; have f_D9 := D9.frozen; have l_D9 := D9.lt
      by_cases hQ0 : Q = 0
      · subst hQ0
        go_wp2_with (at_builtin; go_loud (refine wpList_append_sl rfl (.tmp 30) (.tmp 32) 39 rfl w.heap.size 38 ic _ 8 64 Tryz.underlying39 hic hc0 hc1 hc2 rfl (by decide) _ acc.length (acc.flatMap bxC) rfl (own_ext_keep HO6.out ext_by) (some ⟨_, 0, none⟩) 1 1 [.int .i64 txl, .int .i64 txh, .int .i64 tyl, .int .i64 tyh, .int .i64 tul, .int .i64 tuh, .int .i64 tvl, .int .i64 tvh] rfl rfl (.inr ⟨_, rfl, new_cells (by simp)⟩) (by simp [Value.oneCell']) (by unfold maxLen; omega) (by omega) (by simp only [World.size_alloc]; omega) ?_))
        intro v' w7 ho7 hg7 _
        have hx6 : Ext w6 (w6.alloc (.cells #[.int .i64 txl, .int .i64 txh, .int .i64 tyl, .int .i64 tyh, .int .i64 tul, .int .i64 tuh, .int .i64 tvl, .int .i64 tvh] 38)) := ext_by
        have G4 := Lib.hid ((D4.ext hx6).grown hg7 (own_blk (own_ext_keep HO6.out hx6) (D4.ext hx6) (by decide)))
        have G5 := Lib.hid ((D5.ext hx6).grown hg7 (own_blk (own_ext_keep HO6.out hx6) (D5.ext hx6) (by decide)))
        obtain ⟨ho, he⟩ := own_app (w0 := w) (OwnBxs.ext HO6.out hx6) (EE.trans hx6) (Nat.le_refl _) (show 1 = [(⟨⟨txl, txh⟩, ⟨tyl, tyh⟩, ⟨tul, tuh⟩, tvl, tvh⟩ : Bx)].length from rfl) ho7 hg7
        have HO7 := Lib.hid ho
        have Ha2 : Hid (allB f (L.drop (k + 1)) = K) := Lib.hid Ha.out
        have Hi2 : Hid ((acc ++ [⟨⟨txl, txh⟩, ⟨tyl, tyh⟩, ⟨tul, tuh⟩, tvl, tvh⟩]) ++ (L.drop (k + 1)).map f = T) := by have := Hi.out; rw [List.append_assoc]; exact this
        clear c_D9 f_D9 l_D9
        clear ho ho7 hg7 HO6 EE hx6 D4 D5 D9 Hi Ha
        go_wp2_with fail
        go_roundw
        case rel => exact ⟨k + 1, _, by omega, by go_num, Hi2, Ha2, HO7, G4, G5, he⟩
        case measure => simp [intOf]; omega
      · have HKf : Hid (false = K) := by have := Ha.out; rw [decide_eq_false hQ0, Bool.false_and] at this; exact this
        have hKf := HKf.out
        subst hKf
        clear Hi Ha HKf
        go_wp2_with fail
        (try simp only [Exit.inBlock, Exit.then]); apply bodyPost_ret; (focus (simp only [results, Tryz.results79]; go_simp; try rfl)); rfl
        exact ⟨_, rfl, by first | exact OwnBxs.nil _ _ | (simp only [Bool.false_eq_true, if_false]; exact OwnBxs.nil _ _), ext_by⟩
    · have hkn : k = m := by omega
      subst hkn
      have hi := HI.out
      have ha := HA.out
      rw [HLn.out, List.drop_length] at hi ha
      have Hi : Hid (acc = T) := Lib.hid (by simpa using hi)
      have hKt : true = K := ha
      subst hKt
      clear hi ha HI HA HLn
      go_wp2_with fail
      (try simp only [Exit.inBlock, Exit.then]); apply bodyPost_ret; (focus (simp only [results, Tryz.results79]; go_simp; try rfl)); rfl
      exact ⟨_, rfl, by first | (rw [← Hi.out]; exact HO.out) | (rw [if_pos rfl, ← Hi.out]; exact HO.out), E⟩
end Go.Proofs.YtfniicgoeljmdaaGreat

namespace Go.Proofs.YtfniicgoeljmdaaGreat
open Go.RowKit

set_option maxHeartbeats 1000000 in
theorem rSpan_c (tick ticks : Int) (w : World) :
    Calls Tryz.prog 78 #[.int .i64 tick, .int .i64 ticks] w fun e w' => e = .returned (.bool (decide ((0 ≤ ticks ∧ ticks ≤ 400) ∧ 0 ≤ tick ∧ tick ≤ 1073741824 - ticks))) ∧ Ext w w' := by
  have hc : (0 ≤ ticks ∧ ticks ≤ 400 ∧ 0 ≤ tick ∧ tick ≤ 1073741824 - ticks) ∨ (0 ≤ ticks ∧ ticks ≤ 400 ∧ 0 ≤ tick ∧ 1073741824 - ticks < tick) ∨ (0 ≤ ticks ∧ ticks ≤ 400 ∧ tick < 0) ∨ (0 ≤ ticks ∧ 400 < ticks) ∨ ticks < 0 := by omega
  obtain ⟨T, hT⟩ : ∃ T, decide ((0 ≤ ticks ∧ ticks ≤ 400) ∧ 0 ≤ tick ∧ tick ≤ 1073741824 - ticks) = T := ⟨_, rfl⟩
  rw [hT]
  have HT := Lib.hid hT
  clear hT
  rcases hc with ⟨a, b, c, d⟩ | ⟨a, b, c, d⟩ | ⟨a, b, c⟩ | ⟨a, b⟩ | a
  all_goals go_enter Tryz.func78, Tryz.ntmps78
  all_goals go_wp2_with fail
  all_goals go_ret
  all_goals exact ⟨ret_b (by rw [← HT.out]; clear HT; simp [*]; try omega), Ext.refl _⟩
set_option maxRecDepth 20000 in
set_option maxHeartbeats 4000000 in
theorem rProp_yes (A : Option Addr) (n c : Nat) (home : Int) (l : List Body) (d : Drf) (tick : Int) (B : Option Addr) (m e : Nat) (L : List Bx) (N : Nat) (w : World) (hl : Bodies w A n l) (hL : Bxs w B m L) (h1 : wdErr l home d = 0) (h2 : wayErr tick N L = 0) :
    Calls Tryz.prog 26 #[.agg #[.slice A n c, .int .i64 home], .agg #[.int .i64 d.light.lo, .int .i64 d.light.hi, .int .i64 d.heat.lo, .int .i64 d.heat.hi, .int .i64 d.gas], .int .i64 tick, .slice B m e, .int .i64 (N : Int)] w fun e w' =>
      ∃ v, e = .returned (.tuple #[v, .int .i64 (if (propM l home d N tick L).isSome then 0 else 14)]) ∧ OwnBxs w.heap.size w' v ((propM l home d N tick L).getD []) ∧ Ext w w' := by
  obtain ⟨hk1, hk2, hk3⟩ := way_ok h2
  obtain ⟨hs1, hs2⟩ := set_ok hk3
  have hln := hL.len
  have HW := Lib.hid fun W (hW : Ext w W) => rWorld_c A n c home l d.light.lo d.light.hi d.heat.lo d.heat.hi d.gas W (Bodies.ext hW hl)
  have hd : (⟨⟨d.light.lo, d.light.hi⟩, ⟨d.heat.lo, d.heat.hi⟩, d.gas⟩ : Drf) = d := rfl
  rw [hd, h1] at HW
  have hsp : decide ((0 ≤ (N : Int) ∧ (N : Int) ≤ 400) ∧ 0 ≤ tick ∧ tick ≤ 1073741824 - (N : Int)) = true := by simp only [decide_eq_true_eq]; exact ⟨hk1, hk2⟩
  have HY := Lib.hid fun W => rSpan_c tick N W
  rw [hsp] at HY
  have HC := Lib.hid fun W (hW : Ext w W) => rCheckSet_c B m e L W (Bxs.ext hW hL)
  rw [hk3] at HC
  have HL := Lib.hid fun W (hW : Ext w W) => Bxs.ext hW hL
  have HLn := Lib.hid hln
  obtain ⟨ic, hic, hc0, hc1, hc2⟩ := info_parts info_box
  have HA := Lib.hid fun (t : Int) (ht : 0 ≤ t ∧ t ≤ 1073741824) A' (k c' : Nat) (L' : List Bx) W (hW : Ext w W) (h : Bxs W A' k L') (hk : k ≤ 2000) (hv : ∀ b ∈ L', bxErr b = 0) => rSteps_c A n c home l d t A' k c' L' W (Bodies.ext hW hl) h1 ht h hk hv
  obtain ⟨T, hT⟩ : ∃ T, propM l home d N tick L = T := ⟨_, rfl⟩
  rw [hT]
  have HT := Lib.hid hT
  have HV := Lib.hid hs2
  obtain ⟨hn1, hn2⟩ := hk1
  obtain ⟨ht1, ht2⟩ := hk2
  obtain ⟨⟨ll, lh⟩, ⟨hl', hh⟩, g⟩ := d
  dsimp only at HW HA ⊢
  clear hT hs2 hk3 h1 h2 hl hL hd hsp
  have hm5 : m ≤ 512 := by omega
  clear hln
  go_enter Tryz.func26, Tryz.ntmps26
  go_wp2_with fail
  refine (HW.out _ ext_by).mono ?_
  rintro e w1 ⟨rfl, h1⟩
  have B5 : Blk w1 w.heap.size 24 #[.slice A n c, .int .i64 home] := ((Blk.newAt rfl).alloc _).ext h1
  have B6 : Blk w1 (w.heap.size + 1) 28 #[.int .i64 ll, .int .i64 lh, .int .i64 hl', .int .i64 hh, .int .i64 g] := (Blk.newAt (by simp)).ext h1
  have E : Ext w w1 := ext_by
  clear h1 HW
  go_wp2_with fail
  refine (HY.out _).mono ?_
  rintro e w2 ⟨rfl, h2⟩
  replace B5 := B5.ext h2
  replace B6 := B6.ext h2
  replace E := E.trans h2
  clear h2 HY
  go_wp2_with fail
  refine (HC.out _ E).mono ?_
  rintro e w3 ⟨rfl, h3⟩
  replace B5 := B5.ext h3
  replace B6 := B6.ext h3
  replace E := E.trans h3
  have hz := E.size
  clear h3 HC
  go_wp2_with (at_builtin; go_loud (refine wpList_append_sl rfl (.tmp 35) (.tmp 36) 39 rfl w.heap.size 38 ic _ 8 64 Tryz.underlying39 hic hc0 hc1 hc2 rfl (by decide) _ 0 [] rfl (own_made rfl (by omega)) B m e (L.flatMap bxC) rfl (by rw [flat_len box_len, ← HLn.out]) (sl_news box_len (box_news _) (HL.out _ ext_by)) (flat_one box_one _) (by unfold maxLen; omega) (by omega) (by simp only [World.size_alloc]; omega) ?_))
  intro v4 w4 ho4 hg4 _
  have e4 : Ext w3 w4 := grown_ext (Ext.alloc0 _ _) hg4 (by intro j hj; simp [Value.ownBlock] at hj; omega)
  have HO3 : Hid (OwnBxs w.heap.size w4 v4 L) := by
    unfold Hid OwnBxs
    rw [← HLn.out]
    simpa using ho4
  replace B5 := B5.ext e4
  replace B6 := B6.ext e4
  replace E := E.trans e4
  clear e4 ho4 hg4 hz HL
  go_wp2_with fail
  go_loopw [13, 14] (fun o i wr => ∃ (k : Nat) (C : List Bx), k ≤ N ∧ i = .int .i64 k ∧ C.length ≤ 512 ∧ Hid (∀ b ∈ C, bxErr b = 0) ∧ Hid (propM l home ⟨⟨ll, lh⟩, ⟨hl', hh⟩, g⟩ (N - k) (tick + k) C = T) ∧ Hid (OwnBxs w.heap.size wr o C) ∧ Hid (Blk wr w.heap.size 24 #[.slice A n c, .int .i64 home]) ∧ Hid (Blk wr (w.heap.size + 1) 28 #[.int .i64 ll, .int .i64 lh, .int .i64 hl', .int .i64 hh, .int .i64 g]) ∧ Ext w wr) (fun _ i _ => N - (intOf i).toNat)
  case atStart => exact ⟨0, L, Nat.zero_le _, rfl, hs1, HV, Lib.hid (by simpa using HT.out), HO3, B5, B6, E⟩
  case round =>
    clear HO3 B5 B6 E HT HV hs1
    obtain ⟨k, C, hk, rfl, hC, HV, HI, HO, B5, B6, E⟩ := hrel
    by_cases hlt : k < N
    · obtain ⟨A', c', rfl, hs', _⟩ := HO.out.cap
      have HS' := Lib.hid hs'
      have hi := HI.out
      rw [show N - k = N - (k + 1) + 1 by omega, propM] at hi
      have c5 := B5.out.cell
      have c6 := B6.out.cell
      have l5 := B5.out.lt
      have l6 := B6.out.lt
      clear hs' HI
      go_wp2_with fail
      refine (HA.out _ (by omega) A' C.length c' C _ E HS'.out (by omega) HV.out).mono ?_
      rintro e w4 ⟨v4, rfl, ho4, h4⟩
      have hz := E.size
      have D5 := Lib.hid (B5.out.ext h4)
      have D6 := Lib.hid (B6.out.ext h4)
      have E4 := E.trans h4
      clear h4 HO HS' B5 B6 c5 c6 l5 l6
      cases hK : allB (stepB l home ⟨⟨ll, lh⟩, ⟨hl', hh⟩, g⟩ (tick + (k : Int))) C
      · rw [hK] at hi
        have hn : (none : Option (List Bx)) = T := by simpa using hi
        subst hn
        clear hi hK ho4
        go_wp2_with fail
        (try simp only [Exit.inBlock, Exit.then]); apply bodyPost_ret; (focus (simp only [results, Tryz.results26]; go_simp; try rfl)); rfl
        exact ⟨_, rfl, OwnBxs.nil _ _, E4⟩
      · rw [hK] at hi ho4
        have hv4 := all_ok hK
        have hlC : (C.map (stepB l home ⟨⟨ll, lh⟩, ⟨hl', hh⟩, g⟩ (tick + (k : Int)))).length ≤ 512 := by rw [List.length_map]; exact hC
        have HO4 := Lib.hid (ho4.mono (base' := w.heap.size) hz)
        simp only [if_true] at hi HO4
        have Hi : Hid (propM l home ⟨⟨ll, lh⟩, ⟨hl', hh⟩, g⟩ (N - (k + 1)) (tick + ((k + 1 : Nat) : Int)) (C.map (stepB l home ⟨⟨ll, lh⟩, ⟨hl', hh⟩, g⟩ (tick + (k : Int)))) = T) := by
          rw [show tick + ((k + 1 : Nat) : Int) = tick + k + 1 by omega]
          exact hi
        have HV4 := Lib.hid hv4
        generalize C.map (stepB l home ⟨⟨ll, lh⟩, ⟨hl', hh⟩, g⟩ (tick + (k : Int))) = C2 at *
        clear hi hK ho4 hv4
        go_wp2_with fail
        go_roundw
        case rel => exact ⟨k + 1, C2, by omega, by go_num, hlC, HV4, Hi, HO4, D5, D6, E4⟩
        case measure => simp [intOf]; omega
    · have hkn : k = N := by omega
      have hi := HI.out
      rw [hkn, Nat.sub_self, propM] at hi
      subst hi
      clear HI hkn
      go_wp2_with fail
      (try simp only [Exit.inBlock, Exit.then]); apply bodyPost_ret; (focus (simp only [results, Tryz.results26]; go_simp; try rfl)); rfl
      exact ⟨_, rfl, HO.out, E⟩
set_option maxRecDepth 20000 in
set_option maxHeartbeats 1000000 in
theorem rPropagate_c (A : Option Addr) (n c : Nat) (home : Int) (l : List Body) (d : Drf) (tick : Int) (B : Option Addr) (m e : Nat) (L : List Bx) (ticks : Int) (w : World) (hl : Bodies w A n l) (hL : Bxs w B m L) :
    Calls Tryz.prog 26 #[.agg #[.slice A n c, .int .i64 home], .agg #[.int .i64 d.light.lo, .int .i64 d.light.hi, .int .i64 d.heat.lo, .int .i64 d.heat.hi, .int .i64 d.gas], .int .i64 tick, .slice B m e, .int .i64 ticks] w fun e w' =>
      ∃ v, e = .returned (.tuple #[v, .int .i64 (propErr l home d tick L ticks)]) ∧ OwnBxs w.heap.size w' v (propL l home d tick L ticks) ∧ Ext w w' := by
  by_cases h1 : wdErr l home d = 0
  · by_cases h2 : wayErr tick ticks L = 0
    · obtain ⟨p1, p2⟩ := prop_err h1 h2
      rw [p1, p2]
      have hw := (way_ok h2).1
      have := rProp_yes A n c home l d tick B m e L ticks.toNat w hl hL h1 (by rw [show ((ticks.toNat : Nat) : Int) = ticks by omega]; exact h2)
      rw [show ((ticks.toNat : Nat) : Int) = ticks by omega] at this
      exact this
    · have p1 : propErr l home d tick L ticks = wayErr tick ticks L := by unfold propErr; rw [if_pos h1, if_neg h2]
      have p2 : propL l home d tick L ticks = [] := by unfold propL; rw [if_neg (fun h => h2 h.2)]
      rw [p1, p2]
      have HW := Lib.hid fun W (hW : Ext w W) => rWorld_c A n c home l d.light.lo d.light.hi d.heat.lo d.heat.hi d.gas W (Bodies.ext hW hl)
      have hd : (⟨⟨d.light.lo, d.light.hi⟩, ⟨d.heat.lo, d.heat.hi⟩, d.gas⟩ : Drf) = d := rfl
      rw [hd, h1] at HW
      have HY := Lib.hid fun W => rSpan_c tick ticks W
      have HC := Lib.hid fun W (hW : Ext w W) => rCheckSet_c B m e L W (Bxs.ext hW hL)
      obtain ⟨Y, hY⟩ : ∃ Y, wayErr tick ticks L = Y := ⟨_, rfl⟩
      rw [hY] at h2 ⊢
      unfold wayErr at hY
      by_cases h3 : (0 ≤ ticks ∧ ticks ≤ 400) ∧ 0 ≤ tick ∧ tick ≤ 1073741824 - ticks
      all_goals first | rw [if_pos h3] at hY | rw [if_neg h3] at hY
      all_goals first | rw [decide_eq_true h3] at HY | rw [decide_eq_false h3] at HY
      all_goals subst hY
      all_goals (try generalize setErr L = Y at *)
      all_goals obtain ⟨⟨ll, lh⟩, ⟨hl', hh⟩, g⟩ := d
      all_goals dsimp only at HW ⊢
      all_goals clear hl hL h1 hd p1 p2 h3
      all_goals go_enter Tryz.func26, Tryz.ntmps26
      all_goals go_wp2_with fail
      all_goals refine (HW.out _ ext_by).mono ?_
      all_goals rintro e w1 ⟨rfl, h1⟩
      all_goals obtain ⟨hc_w1, hf_w1, hz_w1⟩ := bcell h1; (try simp only [szA] at hz_w1); (try have := wz0 w w1); (try have := wz1 w w1); (try have := wz2 w w1); (try have := wz3 w w1); (try have := wz4 w w1)
      all_goals go_wp2_with fail
      all_goals refine (HY.out _).mono ?_
      all_goals rintro e w2 ⟨rfl, h2⟩
      all_goals obtain ⟨hc_w2, hf_w2, hz_w2⟩ := bcell h2; (try simp only [szA] at hz_w2); (try have := wz0 w w2); (try have := wz1 w w2); (try have := wz2 w w2); (try have := wz3 w w2); (try have := wz4 w w2)
      all_goals go_wp2_with fail
      all_goals try refine (HC.out _ ext_by).mono ?_
      rintro e w3 ⟨rfl, h3⟩
      obtain ⟨hc_w3, hf_w3, hz_w3⟩ := bcell h3; (try simp only [szA] at hz_w3); (try have := wz0 w w3); (try have := wz1 w w3); (try have := wz2 w w3); (try have := wz3 w w3); (try have := wz4 w w3)
      go_wp2_with fail
      all_goals (try simp only [Exit.inBlock, Exit.then]); apply bodyPost_ret; (focus (simp only [results, Tryz.results26]; go_simp; try rfl)); rfl
      all_goals exact ⟨_, rfl, OwnBxs.nil _ _, ext_by⟩
  · have p1 : propErr l home d tick L ticks = wdErr l home d := by unfold propErr; rw [if_neg h1]
    have p2 : propL l home d tick L ticks = [] := by unfold propL; rw [if_neg (fun h => h1 h.1)]
    rw [p1, p2]
    have HW := Lib.hid fun W (hW : Ext w W) => rWorld_c A n c home l d.light.lo d.light.hi d.heat.lo d.heat.hi d.gas W (Bodies.ext hW hl)
    have hd : (⟨⟨d.light.lo, d.light.hi⟩, ⟨d.heat.lo, d.heat.hi⟩, d.gas⟩ : Drf) = d := rfl
    rw [hd] at HW
    generalize wdErr l home d = Y at *
    obtain ⟨⟨ll, lh⟩, ⟨hl', hh⟩, g⟩ := d
    dsimp only at HW ⊢
    clear hl hL hd p1 p2
    go_enter Tryz.func26, Tryz.ntmps26
    go_wp2_with fail
    refine (HW.out _ ext_by).mono ?_
    rintro e w1 ⟨rfl, h1⟩
    obtain ⟨hc_w1, hf_w1, hz_w1⟩ := bcell h1; (try simp only [szA] at hz_w1); (try have := wz0 w w1); (try have := wz1 w w1); (try have := wz2 w w1); (try have := wz3 w w1); (try have := wz4 w w1)
    go_wp2_with fail
    (try simp only [Exit.inBlock, Exit.then]); apply bodyPost_ret; (focus (simp only [results, Tryz.results26]; go_simp; try rfl)); rfl
    exact ⟨_, rfl, OwnBxs.nil _ _, ext_by⟩
end Go.Proofs.YtfniicgoeljmdaaGreat
