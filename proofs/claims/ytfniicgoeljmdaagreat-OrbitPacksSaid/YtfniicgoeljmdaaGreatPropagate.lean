/- A set after some ticks, or which error: the program. No condition. -/
import Derived.Test.YtfniicgoeljmdaaGreatProp
import Derived.Test.YtfniicgoeljmdaaGreatOwnBoxes
namespace Go.Proofs.YtfniicgoeljmdaaGreat
open Go.RowKit

theorem way_ok {tick ticks : Int} {L : List Bx} (h : wayErr tick ticks L = 0) : (0 ≤ ticks ∧ ticks ≤ 400) ∧ (0 ≤ tick ∧ tick ≤ 1073741824 - ticks) ∧ setErr L = 0 := by
  unfold wayErr at h
  by_cases h1 : (0 ≤ ticks ∧ ticks ≤ 400) ∧ 0 ≤ tick ∧ tick ≤ 1073741824 - ticks
  · rw [if_pos h1] at h
    exact ⟨h1.1, h1.2, h⟩
  · rw [if_neg h1] at h
    cases h
set_option maxRecDepth 20000 in
set_option maxHeartbeats 4000000 in
theorem oProp_yes (A : Option Addr) (n c : Nat) (home : Int) (l : List Body) (d : Drf) (tick : Int) (B : Option Addr) (m e : Nat) (L : List Bx) (N : Nat) (w : World) (hl : Bodies w A n l) (hL : Bxs w B m L) (h1 : wdErr l home d = 0) (h2 : wayErr tick N L = 0) :
    Calls Tryz.prog 25 #[.agg #[.slice A n c, .int .i64 home], .agg #[.int .i64 d.light.lo, .int .i64 d.light.hi, .int .i64 d.heat.lo, .int .i64 d.heat.hi, .int .i64 d.gas], .int .i64 tick, .slice B m e, .int .i64 (N : Int)] w fun e w' =>
      ∃ v, e = .returned (.tuple #[v, .int .i64 (if (propM l home d N tick L).isSome then 0 else 14)]) ∧ OwnBxs w.heap.size w' v ((propM l home d N tick L).getD []) ∧ Ext w w' := by
  obtain ⟨hk1, hk2, hk3⟩ := way_ok h2
  obtain ⟨hs1, hs2⟩ := set_ok hk3
  have hln := hL.len
  have HW := Lib.hid fun W (hW : Ext w W) => oCheckWorld_c A n c home l d.light.lo d.light.hi d.heat.lo d.heat.hi d.gas W (Bodies.ext hW hl)
  have hd : (⟨⟨d.light.lo, d.light.hi⟩, ⟨d.heat.lo, d.heat.hi⟩, d.gas⟩ : Drf) = d := rfl
  rw [hd, h1] at HW
  have HY := Lib.hid fun W (hW : Ext w W) => oWay_c tick N B m e L W (Bxs.ext hW hL)
  rw [h2] at HY
  have HC := Lib.hid fun W (hW : Ext w W) => CloneBox_c B m e L W (Bxs.ext hW hL) (by omega)
  have HA := Lib.hid fun (t : Int) (ht : 0 ≤ t ∧ t ≤ 1073741824) A' (k c' : Nat) (L' : List Bx) W (hW : Ext w W) (h : Bxs W A' k L') (hk : k ≤ 2000) (hv : ∀ b ∈ L', bxErr b = 0) => oAll_c A n c home l d t A' k c' L' W (Bodies.ext hW hl) h1 ht h hk hv
  obtain ⟨T, hT⟩ : ∃ T, propM l home d N tick L = T := ⟨_, rfl⟩
  rw [hT]
  have HT := Lib.hid hT
  have HV := Lib.hid hs2
  obtain ⟨hn1, hn2⟩ := hk1
  obtain ⟨ht1, ht2⟩ := hk2
  obtain ⟨⟨ll, lh⟩, ⟨hl', hh⟩, g⟩ := d
  dsimp only at HW HA ⊢
  clear hT hs2 hk3 h1 h2 hl hL hln hd
  go_enter Tryz.func25, Tryz.ntmps25
  go_wp2_with fail
  refine (HW.out _ ext_by).mono ?_
  rintro e w1 ⟨rfl, h1⟩
  have B5 : Blk w1 w.heap.size 24 #[.slice A n c, .int .i64 home] := ((Blk.newAt rfl).alloc _).ext h1
  have B6 : Blk w1 (w.heap.size + 1) 28 #[.int .i64 ll, .int .i64 lh, .int .i64 hl', .int .i64 hh, .int .i64 g] := (Blk.newAt (by simp)).ext h1
  have E : Ext w w1 := ext_by
  clear h1 HW
  go_wp2_with fail
  refine (HY.out _ E).mono ?_
  rintro e w2 ⟨rfl, h2⟩
  replace B5 := B5.ext h2
  replace B6 := B6.ext h2
  replace E := E.trans h2
  clear h2 HY
  go_wp2_with fail
  refine (HC.out _ E).mono ?_
  rintro e w3 ⟨v3, rfl, ho3, h3⟩
  have hz := E.size
  have HO3 := Lib.hid (ho3.mono (base' := w.heap.size) hz)
  replace B5 := B5.ext h3
  replace B6 := B6.ext h3
  replace E := E.trans h3
  clear h3 ho3 HC hz
  go_wp2_with fail
  go_loopw [14, 34] (fun o i wr => ∃ (k : Nat) (C : List Bx), k ≤ N ∧ i = .int .i64 k ∧ C.length ≤ 512 ∧ Hid (∀ b ∈ C, bxErr b = 0) ∧ Hid (propM l home ⟨⟨ll, lh⟩, ⟨hl', hh⟩, g⟩ (N - k) (tick + k) C = T) ∧ Hid (OwnBxs w.heap.size wr o C) ∧ Hid (Blk wr w.heap.size 24 #[.slice A n c, .int .i64 home]) ∧ Hid (Blk wr (w.heap.size + 1) 28 #[.int .i64 ll, .int .i64 lh, .int .i64 hl', .int .i64 hh, .int .i64 g]) ∧ Ext w wr) (fun _ i _ => N - (intOf i).toNat)
  case atStart => exact ⟨0, L, Nat.zero_le _, rfl, hs1, HV, Lib.hid (by simpa using HT.out), HO3, B5, B6, E⟩
  case round =>
    clear HO3 B5 B6 E HT HV hs1
    obtain ⟨k, C, hk, rfl, hC, HV, HI, HO, B5, B6, E⟩ := hrel
    by_cases hlt : k < N
    · obtain ⟨A', c', rfl, hs', _⟩ := HO.out.cap
      have HS' := Lib.hid hs'
      have hi := HI.out
      rw [show N - k = N - (k + 1) + 1 by omega, propM] at hi
      have c5 := B5.out.cell
      have c6 := B6.out.cell
      have l5 := B5.out.lt
      have l6 := B6.out.lt
      clear hs' HI
      go_wp2_with fail
      refine (HA.out _ (by omega) A' C.length c' C _ E HS'.out (by omega) HV.out).mono ?_
      rintro e w4 ⟨v4, rfl, ho4, h4⟩
      have hz := E.size
      have D5 := Lib.hid (B5.out.ext h4)
      have D6 := Lib.hid (B6.out.ext h4)
      have E4 := E.trans h4
      clear h4 HO HS' B5 B6 c5 c6 l5 l6
      cases hK : allB (stepB l home ⟨⟨ll, lh⟩, ⟨hl', hh⟩, g⟩ (tick + (k : Int))) C
      · rw [hK] at hi
        have hn : (none : Option (List Bx)) = T := by simpa using hi
        subst hn
        clear hi hK ho4
        go_wp2_with fail
        (try simp only [Exit.inBlock, Exit.then]); apply bodyPost_ret; (focus (simp only [results, Tryz.results25]; go_simp; try rfl)); rfl
        exact ⟨_, rfl, OwnBxs.nil _ _, E4⟩
      · rw [hK] at hi ho4
        have hv4 := all_ok hK
        have hlC : (C.map (stepB l home ⟨⟨ll, lh⟩, ⟨hl', hh⟩, g⟩ (tick + (k : Int)))).length ≤ 512 := by rw [List.length_map]; exact hC
        have HO4 := Lib.hid (ho4.mono (base' := w.heap.size) hz)
        simp only [if_true] at hi HO4
        have Hi : Hid (propM l home ⟨⟨ll, lh⟩, ⟨hl', hh⟩, g⟩ (N - (k + 1)) (tick + ((k + 1 : Nat) : Int)) (C.map (stepB l home ⟨⟨ll, lh⟩, ⟨hl', hh⟩, g⟩ (tick + (k : Int)))) = T) := by
          rw [show tick + ((k + 1 : Nat) : Int) = tick + k + 1 by omega]
          exact hi
        have HV4 := Lib.hid hv4
        generalize C.map (stepB l home ⟨⟨ll, lh⟩, ⟨hl', hh⟩, g⟩ (tick + (k : Int))) = C2 at *
        clear hi hK ho4 hv4
        go_wp2_with fail
        go_roundw
        case rel => exact ⟨k + 1, C2, by omega, by go_num, hlC, HV4, Hi, HO4, D5, D6, E4⟩
        case measure => simp [intOf]; omega
    · have hkn : k = N := by omega
      have hi := HI.out
      rw [hkn, Nat.sub_self, propM] at hi
      subst hi
      clear HI hkn
      go_wp2_with fail
      (try simp only [Exit.inBlock, Exit.then]); apply bodyPost_ret; (focus (simp only [results, Tryz.results25]; go_simp; try rfl)); rfl
      exact ⟨_, rfl, HO.out, E⟩
theorem prop_err {l : List Body} {home : Int} {d : Drf} {tick : Int} {L : List Bx} {ticks : Int} (h1 : wdErr l home d = 0) (h2 : wayErr tick ticks L = 0) : propErr l home d tick L ticks = (if (propM l home d ticks.toNat tick L).isSome then 0 else 14) ∧ propL l home d tick L ticks = (propM l home d ticks.toNat tick L).getD [] := by
  exact ⟨by unfold propErr; rw [if_pos h1, if_pos h2], by unfold propL; rw [if_pos (And.intro h1 h2)]⟩
set_option maxRecDepth 20000 in
set_option maxHeartbeats 1000000 in
theorem oPropagate_c (A : Option Addr) (n c : Nat) (home : Int) (l : List Body) (d : Drf) (tick : Int) (B : Option Addr) (m e : Nat) (L : List Bx) (ticks : Int) (w : World) (hl : Bodies w A n l) (hL : Bxs w B m L) :
    Calls Tryz.prog 25 #[.agg #[.slice A n c, .int .i64 home], .agg #[.int .i64 d.light.lo, .int .i64 d.light.hi, .int .i64 d.heat.lo, .int .i64 d.heat.hi, .int .i64 d.gas], .int .i64 tick, .slice B m e, .int .i64 ticks] w fun e w' =>
      ∃ v, e = .returned (.tuple #[v, .int .i64 (propErr l home d tick L ticks)]) ∧ OwnBxs w.heap.size w' v (propL l home d tick L ticks) ∧ Ext w w' := by
  by_cases h1 : wdErr l home d = 0
  · by_cases h2 : wayErr tick ticks L = 0
    · obtain ⟨p1, p2⟩ := prop_err h1 h2
      rw [p1, p2]
      have hw := (way_ok h2).1
      have := oProp_yes A n c home l d tick B m e L ticks.toNat w hl hL h1 (by rw [show ((ticks.toNat : Nat) : Int) = ticks by omega]; exact h2)
      rw [show ((ticks.toNat : Nat) : Int) = ticks by omega] at this
      exact this
    · have p1 : propErr l home d tick L ticks = wayErr tick ticks L := by unfold propErr; rw [if_pos h1, if_neg h2]
      have p2 : propL l home d tick L ticks = [] := by unfold propL; rw [if_neg (fun h => h2 h.2)]
      rw [p1, p2]
      have HW := Lib.hid fun W (hW : Ext w W) => oCheckWorld_c A n c home l d.light.lo d.light.hi d.heat.lo d.heat.hi d.gas W (Bodies.ext hW hl)
      have hd : (⟨⟨d.light.lo, d.light.hi⟩, ⟨d.heat.lo, d.heat.hi⟩, d.gas⟩ : Drf) = d := rfl
      rw [hd, h1] at HW
      have HY := Lib.hid fun W (hW : Ext w W) => oWay_c tick ticks B m e L W (Bxs.ext hW hL)
      generalize wayErr tick ticks L = Y at *
      obtain ⟨⟨ll, lh⟩, ⟨hl', hh⟩, g⟩ := d
      dsimp only at HW ⊢
      clear hl hL h1 hd p1 p2
      go_enter Tryz.func25, Tryz.ntmps25
      go_wp2_with fail
      refine (HW.out _ ext_by).mono ?_
      rintro e w1 ⟨rfl, h1⟩
      obtain ⟨hc_w1, hf_w1, hz_w1⟩ := bcell h1; (try simp only [szA] at hz_w1); (try have := wz0 w w1); (try have := wz1 w w1); (try have := wz2 w w1); (try have := wz3 w w1); (try have := wz4 w w1)
      go_wp2_with fail
      refine (HY.out _ ext_by).mono ?_
      rintro e w2 ⟨rfl, h2⟩
      obtain ⟨hc_w2, hf_w2, hz_w2⟩ := bcell h2; (try simp only [szA] at hz_w2); (try have := wz0 w w2); (try have := wz1 w w2); (try have := wz2 w w2); (try have := wz3 w w2); (try have := wz4 w w2)
      go_wp2_with fail
      (try simp only [Exit.inBlock, Exit.then]); apply bodyPost_ret; (focus (simp only [results, Tryz.results25]; go_simp; try rfl)); rfl
      exact ⟨_, rfl, OwnBxs.nil _ _, ext_by⟩
  · have p1 : propErr l home d tick L ticks = wdErr l home d := by unfold propErr; rw [if_neg h1]
    have p2 : propL l home d tick L ticks = [] := by unfold propL; rw [if_neg (fun h => h1 h.1)]
    rw [p1, p2]
    have HW := Lib.hid fun W (hW : Ext w W) => oCheckWorld_c A n c home l d.light.lo d.light.hi d.heat.lo d.heat.hi d.gas W (Bodies.ext hW hl)
    have hd : (⟨⟨d.light.lo, d.light.hi⟩, ⟨d.heat.lo, d.heat.hi⟩, d.gas⟩ : Drf) = d := rfl
    rw [hd] at HW
    generalize wdErr l home d = Y at *
    obtain ⟨⟨ll, lh⟩, ⟨hl', hh⟩, g⟩ := d
    dsimp only at HW ⊢
    clear hl hL hd p1 p2
    go_enter Tryz.func25, Tryz.ntmps25
    go_wp2_with fail
    refine (HW.out _ ext_by).mono ?_
    rintro e w1 ⟨rfl, h1⟩
    obtain ⟨hc_w1, hf_w1, hz_w1⟩ := bcell h1; (try simp only [szA] at hz_w1); (try have := wz0 w w1); (try have := wz1 w w1); (try have := wz2 w w1); (try have := wz3 w w1); (try have := wz4 w w1)
    go_wp2_with fail
    (try simp only [Exit.inBlock, Exit.then]); apply bodyPost_ret; (focus (simp only [results, Tryz.results25]; go_simp; try rfl)); rfl
    exact ⟨_, rfl, OwnBxs.nil _ _, ext_by⟩
end Go.Proofs.YtfniicgoeljmdaaGreat
