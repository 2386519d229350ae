/- Small tools for the walks of the laws that make their arguments by numbers. No condition. Sights that a truth's places agree with, made of numbers. No condition. -/
import Derived.Test.YtfniicgoeljmdaaGreatMadeFour
import Derived.Test.YtfniicgoeljmdaaGreatSlices
import Derived.Test.YtfniicgoeljmdaaGreatStep
import Derived.Test.YtfniicgoeljmdaaGreatBoxSet
import Derived.Test.YtfniicgoeljmdaaGreatSightOf
import Derived.Test.YtfniicgoeljmdaaGreatAgree
import Derived.Test.YtfniicgoeljmdaaGreatBelieves
namespace Go.Proofs.YtfniicgoeljmdaaGreat
open Go.RowKit

section
variable {P : Program} {S : World → Prop}
theorem xe_callV {o : Oper} {a : Act} {F : World → Prop} {f : FuncId} {args : Array Value} {n0 g : Nat} {K : Act → (World → Prop) → Prop} (G : Value → Prop) (F' : Value → World → Prop) (hg : o.guard = none) (hst : ∀ v, Stable (F' v)) (hS : ∀ v w, F' v w → S w)
    (hrun : ∀ w, F w → (execOp a.eval o).run P w = .ok (.enter f args) w) (hc : ∀ w, F w → Calls P f args w fun e w' => ∃ v, e = .returned v ∧ G v ∧ F' v w') (h : ∀ v, G v → K (a.put o.dst v) (F' v)) : EffC P S false n0 g o a F K :=
  ⟨hg, fun w hw => by rw [hrun w hw]; exact (hc w hw).mono fun e w' ⟨v, he, hv, hx⟩ => ⟨v, he, by simp, F' v, hst v, hS v, hx, h v hv⟩⟩
end
theorem smallB.ok {b : Bx} (h : smallB b) : bxErr b = 0 := by
  rw [bxErr_iff]
  unfold smallB at h
  unfold BxOk Sm
  omega
theorem inBx.holds {b : Bx} {s : St} (h : inBx b s) : holdsB b s = true := holdsB_iff.2 h
def stC4 (s : St) : List Value := [.int .i64 s.x, .int .i64 s.y, .int .i64 s.u, .int .i64 s.v]
theorem st_read (w : World) (x : St) (b o : Nat) (h : ∀ i u, (stC4 x)[i]? = some u → w.cell? ⟨b, o + i, none⟩ = some u) : stAt w x b o := ⟨h 0 _ rfl, h 1 _ rfl, h 2 _ rfl, h 3 _ rfl⟩
end Go.Proofs.YtfniicgoeljmdaaGreat

namespace Go.Proofs.YtfniicgoeljmdaaGreat
open Go.RowKit

set_option maxRecDepth 4000 in
set_option maxHeartbeats 8000000 in
theorem witness_c (wb : World) (g : Nat) (B : Int) (A1 : Option Addr) (n1 c1 : Nat) (home : Int) (A2 : Option Addr) (n2 c2 : Nat) (A3 : Option Addr) (n3 c3 : Nat) (s : Sky) (tick : Int) (Bt : Option Addr) (m ct : Nat) (T : List St) (w : World) (hr : IsRing wb w g B) (hB : B ≤ 700000000) (hs : IsSky w A1 n1 home A2 n2 A3 n3 s) (hm : MadeSky s) (hT : Sts w Bt m T)
    (hv : ∀ p ∈ T, (-33554432 ≤ p.x ∧ p.x ≤ 33554432) ∧ -33554432 ≤ p.y ∧ p.y ≤ 33554432) (hm9 : m ≤ 9) (ht : 0 ≤ tick ∧ tick ≤ 10) :
    Calls Tryz.prog 66 #[.pointer (some ⟨g, 0, none⟩), .agg #[.slice A1 n1 c1, .int .i64 home, .slice A2 n2 c2, .slice A3 n3 c3], .int .i64 tick, .slice Bt m ct] w fun e w' =>
      ∃ (r : Value) (L : List Sight), e = .returned r ∧ w'.ownsRow w.heap.size 87 9 r L.length (L.flatMap sightC) ∧ L.length ≤ m ∧ (∀ q ∈ L, MadeSight s q ∧ ∃ (i : Nat) (p : St), T[i]? = some p ∧ q.tick = tick + i ∧ agreesAll s q p.x p.y = true) ∧ Wr w g w' ∧ IsRing wb w' g (B + 11 * m) := by
  have hg := hr.lt
  have hge := hr.ge
  have hsz := hr.ext.size
  obtain ⟨is_, his, hs0, hs1, hs2⟩ := info_parts info_sight
  have g0 : w.heap.size ≠ g := by omega
  have HRG := Lib.hid hr
  have HSK := Lib.hid hs
  have HT := Lib.hid hT
  have HV := Lib.hid hv
  have HMS := Lib.hid hm
  obtain ⟨ht1, ht2⟩ := ht
  clear hr hs hT hv hm
  go_enter Tryz.func66, Tryz.ntmps66
  go_wp2_with fail
  go_loopw [9, 10] (fun sl ni wr => ∃ (k : Nat) (L : List Sight), ni = .int .i64 k ∧ k ≤ m ∧ L.length ≤ k ∧ Hid (∀ q ∈ L, MadeSight s q ∧ ∃ (i : Nat) (p : St), T[i]? = some p ∧ q.tick = tick + i ∧ agreesAll s q p.x p.y = true) ∧ Hid (wr.ownsRow (w.heap.size + 1) 87 9 sl L.length (L.flatMap sightC)) ∧ Hid (Wr w g wr) ∧ Hid (Blk wr w.heap.size 53 #[.slice A1 n1 c1, .int .i64 home, .slice A2 n2 c2, .slice A3 n3 c3]) ∧ IsRing wb wr g (B + 11 * k)) (fun _ ni _ => m - (intOf ni).toNat)
  case atStart => exact ⟨0, [], rfl, by omega, by simp, Lib.hid (by intro q hq; cases hq), World.ownsRow_nil _ _ _ _, Lib.hid (Wr.of g ext_by), Lib.hid (Blk.newAt rfl), (HRG.out.keep ext_by).mono (by omega)⟩
  case round =>
    obtain ⟨k, L, rfl, hk, hLk, HG, HO, HW, HB, hrr⟩ := hrel
    obtain ⟨wq, rfl⟩ : ∃ wq : World, wq = wr := ⟨_, rfl⟩
    by_cases hlt : k < m
    · have hltz : (k : Int) < m := by omega
      obtain ⟨bT, oT, p, hA, HD, hpm, hp⟩ := HT.out.one hlt
      subst hA
      obtain ⟨hp0, hp1, hp2, hp3⟩ := hp
      have hbT := HRG.out.two hp0 hp1
      have hbl0 : bT < w.heap.size := World.block_lt_of_cell? w _ hp0
      have hq0 := HRG.out.keeps HW.out hbT hp0
      have hq1 := HRG.out.keeps HW.out hbT hp1
      have hbl : bT < wq.heap.size := World.block_lt_of_cell? wq _ hq0
      have hpi : T[k]? = some p := by rw [← List.head?_drop, HD.out]; rfl
      obtain ⟨⟨pv1, pv2⟩, pv3, pv4⟩ := HV.out p hpm
      have HPI := Lib.hid hpi
      have b5 := HB.out
      obtain ⟨px, py, pu, pv⟩ := p
      dsimp only at hq0 hq1 pv1 pv2 pv3 pv4
      have hzq := HW.out.size
      clear hp0 hp1 hp2 hp3 HD hpm hpi hbT
      have c_b5 := b5.cell; have f_b5 := b5.frozen; have l_b5 := b5.lt
      go_wp2_with fail
      refine wp_region_chain1 true [] [0, 1, 2, 3, 4, 5, 6, 7, 8, 9, 10] 11 [12] (Ext _) (Ext _) _ (w.heap.size) 85 #[.int .i64 0, .int .i64 0] (Stable.ext _) (fun _ h => h) (Ext.drew (Ext.refl _)) (by kernel_rfl) (by kernel_rfl) rfl (fun a w => by simp only [pick1, List.drop_succ_cons, List.drop_zero]; go_simp) (fun w h => ⟨h.size, Nat.lt_of_lt_of_le (by omega) h.size⟩) ?_; simp only [XO, pick, List.drop_succ_cons, List.drop_zero]; (repeat' (first | (refine bl_off (by rfl) ?_; simp only [putX]) | (apply bl_op; rfl; (intro w1 h1; obtain ⟨hc, hf, hz⟩ := bcell h1; go_simp; (try go_bits); (first | exact ⟨rfl, Ext.refl _⟩)); simp only [putX]) | (refine bl_split rfl rfl (fun hx => ?_) (fun hx => ?_) <;> simp only [hx]))); refine bl_nil ?_; intro b11 hb_b11 hg_b11; (try simp only [pick1, List.drop_succ_cons, List.drop_zero]); (try simp only [List.setIfInBounds_toArray, List.set_cons_zero, List.set_cons_succ]); refine tl_last rfl rfl (fun wx ⟨hx, hBx⟩ => ?_); have hcB := hBx.cell; have hfB := hBx.frozen; have hlB := hBx.lt; refine ⟨putC b11 wx 0 [.int .i64 px, .int .i64 py], (by simp only [putC, Nat.reduceAdd]; go_simp; try rfl), ?_⟩; have q0 := Blk.putAt (l := [.int .i64 px, .int .i64 py]) hBx rfl; have p0 := Ext.putC (b := b11) (by omega) [.int .i64 px, .int .i64 py] 0 hx; revert q0 p0; clear hcB hfB hBx hlB hx; generalize putC _ _ _ _ = W5; intro hB_b11 hE_W5
      have hgq := hrr.lt
      have HO5 := Lib.hid (own_ext_keep HO.out hE_W5)
      have HW5 := Lib.hid (HW.out.trans (Wr.of g hE_W5))
      have r5 := hrr.keep hE_W5
      have hz5 := hE_W5.size
      clear c_b5 f_b5 l_b5
      replace b5 := b5.ext hE_W5
      clear hE_W5 HO HW hrr hq0 hq1 HB
      have c_b5 := b5.cell; have f_b5 := b5.frozen; have l_b5 := b5.lt; have c_hB_b11 := hB_b11.cell; have f_hB_b11 := hB_b11.frozen; have l_hB_b11 := hB_b11.lt
      go_wp2_with fail
      refine (SightFar_c wb g _ A1 n1 c1 home A2 n2 c2 A3 n3 c3 s (tick + (k : Int)) px py W5 r5 (by omega) (HSK.out.wr HRG.out HW5.out) HMS.out (by omega) ⟨pv1, pv2⟩ ⟨pv3, pv4⟩).mono ?_
      rintro e w6 ⟨kind, st, cat, dx, dy, er, lo, hi, rfl, hx, hw6, hr6⟩
      have HO6 := Lib.hid (own_wr HO5.out r5 (by decide) hw6)
      have HW6 := Lib.hid (HW5.out.trans hw6)
      clear c_b5 f_b5 l_b5 c_hB_b11 f_hB_b11 l_hB_b11
      replace b5 := b5.wr hw6 g0
      have b11' := hB_b11.wr hw6 (by omega)
      have hz6 := hw6.size
      clear hw6 hB_b11 HO5 HW5 r5
      have c_b5 := b5.cell; have f_b5 := b5.frozen; have l_b5 := b5.lt; have c_b11' := b11'.cell; have f_b11' := b11'.frozen; have l_b11' := b11'.lt
      go_wp2_with fail
      obtain ⟨V7, hV7⟩ : ∃ W, W = w6.alloc (.cells #[.int .i64 kind, .int .i64 st, .int .i64 cat, .int .i64 (tick + (k : Int)), .int .i64 dx, .int .i64 dy, .int .i64 er, .int .i64 lo, .int .i64 hi] 87) := ⟨_, rfl⟩
      obtain ⟨z12, hz12⟩ : ∃ z, z = w6.heap.size := ⟨_, rfl⟩
      rw [← hV7]
      (try rw [← hz12])
      have S12 : Blk V7 z12 87 #[.int .i64 kind, .int .i64 st, .int .i64 cat, .int .i64 (tick + (k : Int)), .int .i64 dx, .int .i64 dy, .int .i64 er, .int .i64 lo, .int .i64 hi] := by rw [hV7]; exact Blk.newAt hz12
      have e7 : Ext w6 V7 := by rw [hV7]; exact Ext.alloc0 _ _
      clear c_b5 f_b5 l_b5 c_b11' f_b11' l_b11'
      replace b5 := b5.ext e7
      have b11 := b11'.ext e7
      have r7 := hr6.keep e7
      have HO7 := Lib.hid (own_ext_keep HO6.out e7)
      have HW7 := Lib.hid (HW6.out.trans (Wr.of g e7))
      have hg6 := hr6.lt
      clear hV7 e7 b11' hr6 HO6 HW6
      refine (Next_c wb g _ 2 V7 r7 (by omega) (by omega) (by omega)).mono ?_
      rintro e w8 ⟨v8, rfl, va8, vb8, hw8, hr8⟩
      have HO8 := Lib.hid (own_wr HO7.out r7 (by decide) hw8)
      have HW8 := Lib.hid (HW7.out.trans hw8)
      replace b5 := b5.wr hw8 g0
      replace b11 := b11.wr hw8 (by omega)
      replace S12 := S12.wr hw8 (by omega)
      have hz8 := HW8.out.size
      clear hw8 HO7 HW7 r7 hz12
      have c_b5 := b5.cell; have f_b5 := b5.frozen; have l_b5 := b5.lt; have c_b11 := b11.cell; have f_b11 := b11.frozen; have l_b11 := b11.lt; have c_S12 := S12.cell; have f_S12 := S12.frozen; have l_S12 := S12.lt
      by_cases h8 : v8 = 0
      · subst h8
        obtain ⟨ag, hag⟩ : ∃ ag, agreesAll s ⟨kind, st, cat, tick + (k : Int), dx, dy, er, lo, hi⟩ px py = ag := ⟨_, rfl⟩
        have HAG := Lib.hid fun W hW => Agrees_c A1 n1 c1 home A2 n2 c2 A3 n3 c3 s kind st cat (tick + (k : Int)) dx dy er lo hi px py W hW
        rw [hag] at HAG
        have Hag := Lib.hid hag
        clear hag
        go_wp2_with fail
        refine (HAG.out w8 (HSK.out.wr HRG.out HW8.out)).mono ?_
        rintro e w9 ⟨rfl, h9⟩
        clear c_b5 f_b5 l_b5 c_b11 f_b11 l_b11 c_S12 f_S12 l_S12
        have B5 := Lib.hid (b5.ext h9)
        have S9 := S12.ext h9
        have r9 := hr8.keep h9
        have HO9 := Lib.hid (own_ext_keep HO8.out h9)
        have HW9 := Lib.hid (HW8.out.trans (Wr.of g h9))
        have hz9 := HW9.out.size
        clear h9 b5 b11 S12 hr8 HO8 HW8 HAG
        cases ag
        · go_wp2_with fail
          go_roundw
          case rel => exact ⟨k + 1, L, by go_num, by omega, by omega, HG, HO9, HW9, B5, r9.mono (by omega)⟩
          case measure => simp [intOf]; omega
        · have c_S9 := S9.cell; have f_S9 := S9.frozen; have l_S9 := S9.lt
          go_wp2_with (at_builtin; go_loud (refine wpList_append_sl rfl (.tmp 46) (.tmp 48) 70 rfl (w.heap.size + 1) 87 is_ _ 9 72 Tryz.underlying70 his hs0 hs1 hs2 rfl (by decide) _ L.length (L.flatMap sightC) rfl (own_ext_keep HO9.out (Ext.alloc0 _ _)) (some ⟨w9.heap.size, 0, none⟩) 1 1 [.int .i64 kind, .int .i64 st, .int .i64 cat, .int .i64 (tick + (k : Int)), .int .i64 dx, .int .i64 dy, .int .i64 er, .int .i64 lo, .int .i64 hi] rfl rfl (.inr ⟨_, rfl, new_cells rfl⟩) (by intro u hu; simp at hu; rcases hu with rfl | rfl | rfl | rfl | rfl | rfl | rfl | rfl | rfl <;> rfl) (by unfold maxLen; omega) (by omega) (by simp; omega) ?_))
          intro v' w10 ho10 hg10 _
          have e10 : Ext w9 (w9.alloc (.cells #[.int .i64 kind, .int .i64 st, .int .i64 cat, .int .i64 (tick + (k : Int)), .int .i64 dx, .int .i64 dy, .int .i64 er, .int .i64 lo, .int .i64 hi] 87)) := Ext.alloc0 _ _
          have hO := own_ext_keep HO9.out e10
          have r10 : IsRing wb w10 g (B + 11 * ((k + 1 : Nat) : Int)) := ((r9.keep e10).row hg10 ((r9.keep e10).ne hO (by decide)) (own_ge hO (by omega))).mono (by omega)
          have HW10 := Lib.hid ((HW9.out.trans (Wr.of g e10)).row hg10 (own_ge hO (by omega)))
          have B10 := Lib.hid ((B5.out.ext e10).grown hg10 (own_block_ge hO (by omega)))
          have HO10 : Hid (w10.ownsRow (w.heap.size + 1) 87 9 v' (L ++ [(⟨kind, st, cat, tick + (k : Int), dx, dy, er, lo, hi⟩ : Sight)]).length ((L ++ [(⟨kind, st, cat, tick + (k : Int), dx, dy, er, lo, hi⟩ : Sight)]).flatMap sightC)) := by
            rw [List.length_append, List.flatMap_append]
            exact ho10
          clear c_S9 f_S9 l_S9
          clear HO9 HW9 hg10 ho10 hO e10 r9 S9 B5
          go_wp2_with fail
          go_roundw
          case rel =>
            refine ⟨k + 1, L ++ [⟨kind, st, cat, tick + (k : Int), dx, dy, er, lo, hi⟩], by go_num, by omega, by simp; omega, Lib.hid fun q hq => ?_, HO10, HW10, B10, r10⟩
            rcases List.mem_append.1 hq with hq | hq
            · exact HG.out q hq
            · rw [List.mem_singleton.1 hq]
              exact ⟨hx, k, _, HPI.out, rfl, Hag.out⟩
          case measure => simp [intOf]; omega
      · clear c_b5 f_b5 l_b5 c_b11 f_b11 l_b11 c_S12 f_S12 l_S12
        have B5 := Lib.hid b5
        clear b5 b11 S12
        have h8' : ¬ ((v8 == 0) = true) := by simpa using h8
        go_wp2_with fail
        go_roundw
        case rel => exact ⟨k + 1, L, by go_num, by omega, by omega, HG, HO8, HW8, B5, hr8.mono (by omega)⟩
        case measure => simp [intOf]; omega
    · obtain rfl : k = m := by omega
      go_wp2_with fail
      go_ret
      exact ⟨_, L, rfl, own_mono HO.out (by omega), hLk, HG.out, HW.out, hrr⟩
end Go.Proofs.YtfniicgoeljmdaaGreat
