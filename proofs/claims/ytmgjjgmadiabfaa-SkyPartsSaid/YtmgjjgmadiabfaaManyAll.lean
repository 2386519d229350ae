/- A sky, tracklets and guesses made of numbers. No condition. -/
import Derived.Test.YtmgjjgmadiabfaaOwnTrks
namespace Go.Proofs.Ytmgjjgmadiabfaa
open Go.RowKit

def GoodG (x : St) : Prop := (-3000 ≤ x.x ∧ x.x ≤ 3000) ∧ (-3000 ≤ x.y ∧ x.y ≤ 3000) ∧ (-60 ≤ x.u ∧ x.u ≤ 60) ∧ -60 ≤ x.v ∧ x.v ≤ 60
def GoodT (s : Sky) (l : List Sight) : Prop := GoodTrk s l ∧ 1 ≤ l.length ∧ l.length ≤ 4
def ManyPost (w : World) (e : Ending) (w' : World) : Prop :=
  ∃ A1 n1 c1 home A2 n2 c2 A3 n3 c3 s A n c L A' n' c' G, e = .returned (.tuple #[.agg #[.slice A1 n1 c1, .int .i64 home, .slice A2 n2 c2, .slice A3 n3 c3], .slice A n c, .slice A' n' c']) ∧ IsSky w' A1 n1 home A2 n2 A3 n3 s ∧ MadeSky s ∧ Trks w' A n L ∧ Sts w' A' n' G ∧
    (1 ≤ L.length ∧ L.length ≤ 6) ∧ (∀ l ∈ L, GoodT s l) ∧ (1 ≤ G.length ∧ G.length ≤ 6) ∧ (∀ x ∈ G, GoodG x) ∧ Ext w w'
theorem own_other {base base' : Nat} {w w' : World} {v v' : Value} {e e' : TypeId} {sz sz' n n' : Nat} {xs xs' : List Value} (h : w.ownsRow base e sz v n xs) (ho : w.ownsRow base' e' sz' v' n' xs') (h1 : e ≠ e') (hg : w.grownBy w' v'.ownBlock) : w'.ownsRow base e sz v n xs := World.ownsRow.kept h hg (own_ne h ho h1)
theorem st_len (x : St) : (stC x).length = 4 := rfl
theorem st_read (w : World) (x : St) (b o : Nat) (h : ∀ i u, (stC x)[i]? = some u → w.cell? ⟨b, o + i, none⟩ = some u) : stAt w x b o := ⟨h 0 _ rfl, h 1 _ rfl, h 2 _ rfl, h 3 _ rfl⟩
theorem info_state : (Try.prog.info? 53).map (fun i => (i.zero, i.size, i.bytes)) = some (some (.agg #[.int .i64 0, .int .i64 0, .int .i64 0, .int .i64 0]), 4, 32) := by kernel_rfl

set_option maxRecDepth 4000 in
set_option maxHeartbeats 4000000 in
theorem manyOf_c (A : Option Addr) (n c : Nat) (l : List Int) (w : World) (hl : Ints w A n l) : Calls Try.prog 46 #[.slice A n c] w (ManyPost w) := by
  obtain ⟨it, hit, ht0, ht1, ht2⟩ := info_parts info_sights
  obtain ⟨ig, hig, hg0, hg1, hg2⟩ := info_parts info_state
  go_enter Try.func46, Try.ntmps46
  go_wp2_with fail
  refine (NewRing_c A n c l _ (Ints.ext (by (repeat' (first | exact Ext.refl _ | assumption | apply Ext.alloc | apply Ext.drew | refine Ext.set ?_ (by dsimp only; omega) _ | refine Ext.trans ?_ (by assumption)))) hl)).mono ?_
  rintro e w1 ⟨rfl, h1, hr1⟩
  obtain ⟨wb, hwb⟩ : ∃ W, W = w.alloc (.cells zsky 28) := ⟨_, rfl⟩
  have hE0 : Ext w wb := by rw [hwb]; (repeat' (first | exact Ext.refl _ | assumption | apply Ext.alloc | apply Ext.drew | refine Ext.set ?_ (by dsimp only; omega) _ | refine Ext.trans ?_ (by assumption)))
  have hz0 : wb.heap.size = w.heap.size + 1 := by rw [hwb]; simp
  have hA0 : Blk wb w.heap.size 28 zsky := by rw [hwb]; exact Blk.newAt rfl
  rw [show w.alloc (.cells zsky 28) = wb from hwb.symm] at h1 hr1 ⊢
  clear hwb
  generalize hgg : wb.heap.size = g at *
  have hgw : w.heap.size < g := by omega
  clear hz0
  have hl1 := hr1.lt
  go_wp2_with fail
  refine (SkyOf_c wb g 0 _ hr1 (by omega)).mono ?_
  rintro e w2 ⟨A1, n1, c1, home, A2, n2, c2, A3, n3, c3, s, rfl, ⟨bs, ho2⟩, hs2, hm, hw2, hr2⟩
  have hl2 := hr2.lt
  have hz2 := hw2.size
  go_wp2_with fail
  have hr2' := hr2.alloc (.cells #[.slice A1 n1 c1, .int .i64 home, .slice A2 n2 c2, .slice A3 n3 c3] 28)
  refine (Next_c wb g _ _ _ hr2' (by omega) (by omega) (by omega)).mono ?_; rintro e w3 ⟨v3, rfl, va3, vb3, hw3, hr3⟩; obtain ⟨hc3, hf3, hz3⟩ := Wr.cells hw3; (repeat (first | rw [World.size_alloc] at hz3 | rw [World.size_drew] at hz3 | rw [World.size_setCell] at hz3)); have hg3 := hr3.lt
  have hne2 : w2.heap.size ≠ g := by omega
  have S6 : Blk w3 w2.heap.size 28 #[.slice A1 n1 c1, .int .i64 home, .slice A2 n2 c2, .slice A3 n3 c3] := (Blk.newAt rfl).wr hw3 hne2
  have ho3 : OwnSky w1.heap.size w3 (.slice A1 n1 c1) (.slice A2 n2 c2) (.slice A3 n3 c3) s bs := (ho2.ext (Ext.alloc0 _ _)).wr hr2' hw3
  have hs3 : IsSky w3 A1 n1 home A2 n2 A3 n3 s := (hs2.ext (Ext.alloc0 _ _)).wr hr2' hw3
  have HS6 := Lib.hid S6
  clear hc3 hf3 hw3 hr2' hr2 hw2 ho2 hs2 S6
  go_wp2_with fail
  go_loopw [7, 8, 9] (fun v qv ni wr => ∃ (m : Nat) (L : List (List Sight)) (G : List St) (gv : Value), ni = .int .i64 m ∧ gv = qv ∧ L.length + 2 * m ≤ 6 ∧ 1 ≤ L.length + m ∧ G.length + 2 * m ≤ 6 ∧ 1 ≤ G.length + m ∧ m ≤ 3 ∧ Hid (∀ l ∈ L, GoodT s l) ∧ Hid (∀ x ∈ G, GoodG x) ∧ Hid (OwnTrks w3.heap.size wr v L) ∧
    Hid (wr.ownsRow w3.heap.size 53 4 gv G.length (G.flatMap stC)) ∧ Hid (Wr w3 g wr) ∧ IsRing wb wr g (61 + 120 * (3 - m))) (fun _ _ ni _ => (intOf ni).toNat)
  case atStart => exact ⟨(1 + v3).toNat, [], [], .slice none 0 0, by rw [Int.toNat_of_nonneg (by omega)], rfl, by simp; omega, by simp; omega, by simp; omega, by simp; omega, by omega, Lib.hid (by intro x hx; cases hx), Lib.hid (by intro x hx; cases hx), OwnTrks.nil _ _, World.ownsRow_nil _ _ _ _, Lib.hid (Wr.refl _ _), hr3.mono (by omega)⟩
  case round =>
    obtain ⟨m, L, G, gv, rfl, rfl, hm1, hm2, hm3, hm4, hm5, HL, HG, HO, HR, HW, hrr⟩ := hrel
    obtain ⟨wq, rfl⟩ : ∃ wq : World, wq = wr := ⟨_, rfl⟩
    have hgr := hrr.lt
    by_cases hlt : 0 < m
    · go_wp2_with fail
      refine (GuessOf_c wb g _ _ hrr (by omega)).mono ?_
      rintro e w5 ⟨gx, gy, gu, gv', rfl, ⟨hgx, hgy, hgu, hgv⟩, hw5, hr5⟩
      have hz5 := hw5.size
      have hl5 := hr5.lt
      have HO5 := Lib.hid (HO.out.wr hrr hw5)
      have HR5 := Lib.hid (own_wr HR.out hrr (by decide) hw5)
      have HW5 := Lib.hid (HW.out.trans hw5)
      clear HO HR HW hw5
      go_wp2_with fail
      have hr5' := hr5.alloc (.cells #[.int .i64 gx, .int .i64 gy, .int .i64 gu, .int .i64 gv'] 53)
      refine (Next_c wb g _ _ _ hr5' (by omega) (by omega) (by omega)).mono ?_; rintro e w6 ⟨v6, rfl, va6, vb6, hw6, hr6⟩; obtain ⟨hc6, hf6, hz6⟩ := Wr.cells hw6; (repeat (first | rw [World.size_alloc] at hz6 | rw [World.size_drew] at hz6 | rw [World.size_setCell] at hz6)); have hg6 := hr6.lt
      have hne5 : w5.heap.size ≠ g := by omega
      have HT6 := Lib.hid (Blk.wr (Blk.newAt (w := w5) (t := 53) (cs := #[.int .i64 gx, .int .i64 gy, .int .i64 gu, .int .i64 gv']) rfl) hw6 hne5)
      have HO6 := Lib.hid ((HO5.out.ext (Ext.alloc0 _ _)).wr hr5' hw6)
      have HR6 := Lib.hid (own_wr (own_ext_keep HR5.out (Ext.alloc0 _ _)) hr5' (by decide) hw6)
      have HW6 := Lib.hid ((Wr.alloc HW5.out _).trans hw6)
      clear HO5 HR5 HW5 hc6 hf6 hw6 hr5'
      go_wp2_with fail
      go_loopw [7, 11] (fun v ki wr => ∃ (k : Nat) (L : List (List Sight)), ki = .int .i64 k ∧ L.length + k + 2 * (m - 1) ≤ 6 ∧ 1 ≤ L.length + k ∧ k ≤ 2 ∧ Hid (∀ l ∈ L, GoodT s l) ∧ Hid (OwnTrks w3.heap.size wr v L) ∧
        Hid (wr.ownsRow w3.heap.size 53 4 gv G.length (G.flatMap stC)) ∧ Hid (Blk wr w5.heap.size 53 #[.int .i64 gx, .int .i64 gy, .int .i64 gu, .int .i64 gv']) ∧ Hid (Wr w3 g wr) ∧ IsRing wb wr g (61 + 120 * (3 - m) + 5 + 50 * (2 - k))) (fun _ ki _ => (intOf ki).toNat)
      case atStart => exact ⟨(1 + v6).toNat, L, by rw [Int.toNat_of_nonneg (by omega)], by omega, by omega, by omega, HL, HO6, HR6, HT6, HW6, hr6.mono (by omega)⟩
      case round =>
        obtain ⟨k, L, rfl, hk1, hk2, hk3, HL, HO, HR, HT, HW, hrr⟩ := hrel
        clear HO6 HR6 HT6 HW6
        obtain ⟨wi, rfl⟩ : ∃ wi : World, wi = wr := ⟨_, rfl⟩
        have hgr := hrr.lt
        have S := HS6.out.wr HW.out hne2
        have hcS := S.cell
        have hlS := S.lt
        have hcT := HT.out.cell
        have hlT := HT.out.lt
        by_cases hlk : 0 < k
        · go_wp2_with fail
          refine (TrackletOf_c wb g _ A1 n1 c1 home A2 n2 c2 A3 n3 c3 s gx gy gu gv' 4 _ hrr (by omega) (hs3.wr hr3 HW.out) hm hgx hgy hgu hgv (by omega)).mono ?_
          rintro e w8 ⟨bt, ct, tr, rfl, ho8, htl, hgt, hw8, hr8⟩
          have hzi := HW.out.size
          have hz8 := hw8.size
          have HO8 := Lib.hid (HO.out.wr hrr hw8)
          have HR8 := Lib.hid (own_wr HR.out hrr (by decide) hw8)
          have HT8 := Lib.hid (HT.out.wr hw8 hne5)
          have HW8 := Lib.hid (HW.out.trans hw8)
          have HN8 := Lib.hid (own_mono ho8 (show w3.heap.size ≤ wi.heap.size by omega))
          clear HO HR HT HW hcS hlS hcT hlT S ho8 hw8
          obtain ⟨raw, hraw1, hraw2, hraw3⟩ := HO8.out
          have Hraw := Lib.hid (And.intro hraw1 (And.intro hraw2 hraw3))
          clear hraw1 hraw2 hraw3
          go_wp2_with (at_builtin; go_loud (refine wpList_append_sl rfl (.tmp 32) (.tmp 37) 74 rfl w3.heap.size 51 it _ 1 24 Try.underlying74 hit ht0 ht1 ht2 rfl (by decide) _ L.length raw rfl (own_ext_keep Hraw.out.2.1 (Ext.alloc0 _ _)) (some ⟨w8.heap.size, 0, none⟩) 1 1 [.slice (some ⟨bt, 0, none⟩) tr.length ct] rfl rfl (.inr ⟨_, rfl, new_cells rfl⟩) (by intro u hu; simp at hu; rcases hu with rfl; rfl) (by unfold maxLen; omega) (by omega) (by simp; omega) ?_))
          intro v' w9 ho9 hg9 _
          have e8 : Ext w8 (w8.alloc (.cells #[.slice (some ⟨bt, 0, none⟩) tr.length ct] 51)) := Ext.alloc0 _ _
          have hrow := own_ext_keep Hraw.out.2.1 e8
          have HO9 : Hid (OwnTrks w3.heap.size w9 v' (L ++ [tr])) := Lib.hid (OwnTrks.snoc rfl Hraw.out.1 hrow (fun j hj => by obtain ⟨u, q1, q2⟩ := Hraw.out.2.2 j hj; exact ⟨u, q1, q2.ext e8⟩) (OwnTrk.ext HN8.out e8) hg9 ho9)
          have HR9 := Lib.hid (own_other (own_ext_keep HR8.out e8) hrow (by decide) hg9)
          have HT9 := Lib.hid ((HT8.out.ext e8).grown hg9 (own_blk hrow (HT8.out.ext e8) (by decide)))
          have HW9 := Lib.hid ((HW8.out.trans (Wr.of g e8)).row hg9 (own_ge hrow (by omega)))
          have hr9 := (hr8.keep e8).row hg9 ((hr8.keep e8).ne hrow (by decide)) (own_ge hrow (by omega))
          have HL9 : Hid (∀ x ∈ L ++ [tr], GoodT s x) := Lib.hid (by
            intro x hx
            rcases List.mem_append.1 hx with hx | hx
            · exact HL.out x hx
            · simp at hx; subst hx; exact ⟨hgt, htl⟩)
          clear Hraw HO8 HR8 HT8 HW8 HN8 hrow ho9 hg9 e8 HL
          go_wp2_with fail
          go_roundw
          case rel => exact ⟨k - 1, L ++ [tr], by go_num, by simp; omega, by simp; omega, by omega, HL9, HO9, HR9, HT9, HW9, hr9.mono (by omega)⟩
          case measure => simp [intOf]; omega
        · have hk0 : k = 0 := by omega
          subst hk0
          go_wp2_with fail
          refine (Next_c wb g _ _ _ hrr (by omega) (by omega) (by omega)).mono ?_; rintro e w10 ⟨v10, rfl, va10, vb10, hw10, hr10⟩; obtain ⟨hc10, hf10, hz10⟩ := Wr.cells hw10; (repeat (first | rw [World.size_alloc] at hz10 | rw [World.size_drew] at hz10 | rw [World.size_setCell] at hz10)); have hg10 := hr10.lt
          have HO10 := Lib.hid (HO.out.wr hrr hw10)
          have HR10 := Lib.hid (own_wr HR.out hrr (by decide) hw10)
          have HT10 := HT.out.wr hw10 hne5
          have HW10 := Lib.hid (HW.out.trans hw10)
          have hcT := HT10.cell
          have hlT := HT10.lt
          clear HO HR HT HW hc10 hf10 hw10 hcS hlS S hgr hlk
          by_cases hv10 : 0 < v10
          · have hz10 := HW10.out.size
            go_wp2_with (at_builtin; go_loud (refine wpList_append_sl rfl (.tmp 42) (.tmp 44) 69 rfl w3.heap.size 53 ig _ 4 32 Try.underlying69 hig hg0 hg1 hg2 rfl (by decide) _ G.length (G.flatMap stC) rfl (own_ext_keep HR10.out (Ext.alloc0 _ _)) (some ⟨w10.heap.size, 0, none⟩) 1 1 [.int .i64 gx, .int .i64 gy, .int .i64 gu, .int .i64 gv'] rfl rfl (.inr ⟨_, rfl, new_cells rfl⟩) (by intro u hu; simp at hu; rcases hu with rfl | rfl | rfl | rfl <;> rfl) (by unfold maxLen; omega) (by omega) (by simp; omega) ?_))
            intro p' w11 ho11 hg11 _
            have e11 : Ext w10 (w10.alloc (.cells #[.int .i64 gx, .int .i64 gy, .int .i64 gu, .int .i64 gv'] 53)) := Ext.alloc0 _ _
            have hrow := own_ext_keep HR10.out e11
            have HO11 := Lib.hid ((HO10.out.ext e11).other hrow (by decide) (by decide) hg11)
            have HR11 : Hid (w11.ownsRow w3.heap.size 53 4 p' (G ++ [(⟨gx, gy, gu, gv'⟩ : St)]).length ((G ++ [(⟨gx, gy, gu, gv'⟩ : St)]).flatMap stC)) := by
              rw [List.length_append, List.flatMap_append]
              exact ho11
            have HW11 := Lib.hid ((HW10.out.trans (Wr.of g e11)).row hg11 (own_ge hrow (by omega)))
            have hr11 := (hr10.keep e11).row hg11 ((hr10.keep e11).ne hrow (by decide)) (own_ge hrow (by omega))
            have HG11 : Hid (∀ x ∈ G ++ [(⟨gx, gy, gu, gv'⟩ : St)], GoodG x) := Lib.hid (by
              intro x hm'
              rcases List.mem_append.1 hm' with hm' | hm'
              · exact HG.out x hm'
              · simp at hm'; subst hm'; exact ⟨hgx, hgy, hgu, hgv⟩)
            clear HO10 HR10 HW10 HT10 hcT hlT hrow ho11 hg11 e11
            obtain ⟨G1, hG1⟩ : ∃ G1, G1 = G ++ [(⟨gx, gy, gu, gv'⟩ : St)] := ⟨_, rfl⟩
            rw [← hG1] at HR11 HG11
            have hG1a : G1.length ≤ G.length + 1 := by rw [hG1]; simp
            have hG1b : G.length + 1 ≤ G1.length := by rw [hG1]; simp
            clear hG1
            go_wp2_with fail
            refine (GuessOf_c wb g _ _ hr11 (by omega)).mono ?_
            rintro e w12 ⟨hx, hy, hu, hv, rfl, hbd, hw12, hr12⟩
            have hz12 := hw12.size
            have hzw := HW11.out.size
            have HO12 := Lib.hid (HO11.out.wr hr11 hw12)
            have HR12 := Lib.hid (own_wr HR11.out hr11 (by decide) hw12)
            have HW12 := Lib.hid (HW11.out.trans hw12)
            clear hw12
            go_wp2_with (at_builtin; go_loud (refine wpList_append_sl rfl (.tmp 46) (.tmp 49) 69 rfl w3.heap.size 53 ig _ 4 32 Try.underlying69 hig hg0 hg1 hg2 rfl (by decide) _ G1.length (G1.flatMap stC) rfl (own_ext_keep HR12.out (Ext.alloc0 _ _)) (some ⟨w12.heap.size, 0, none⟩) 1 1 [.int .i64 hx, .int .i64 hy, .int .i64 hu, .int .i64 hv] rfl rfl (.inr ⟨_, rfl, new_cells rfl⟩) (by intro u hu; simp at hu; rcases hu with rfl | rfl | rfl | rfl <;> rfl) (by unfold maxLen; omega) (by omega) (by simp; omega) ?_))
            intro q' w13 ho13 hg13 _
            have e13 : Ext w12 (w12.alloc (.cells #[.int .i64 hx, .int .i64 hy, .int .i64 hu, .int .i64 hv] 53)) := Ext.alloc0 _ _
            have hrow := own_ext_keep HR12.out e13
            have HO13 := Lib.hid ((HO12.out.ext e13).other hrow (by decide) (by decide) hg13)
            have HR13 : Hid (w13.ownsRow w3.heap.size 53 4 q' (G1 ++ [(⟨hx, hy, hu, hv⟩ : St)]).length ((G1 ++ [(⟨hx, hy, hu, hv⟩ : St)]).flatMap stC)) := by
              rw [List.length_append, List.flatMap_append]
              exact ho13
            have HW13 := Lib.hid ((HW12.out.trans (Wr.of g e13)).row hg13 (own_ge hrow (by omega)))
            have hr13 := (hr12.keep e13).row hg13 ((hr12.keep e13).ne hrow (by decide)) (own_ge hrow (by omega))
            clear HO12 HR12 HW12 hrow ho13 hg13 e13
            go_wp2_with fail
            go_roundw
            case rel =>
              refine ⟨m - 1, L, G1 ++ [⟨hx, hy, hu, hv⟩], q', by go_num, rfl, by omega, by omega, by simp; omega, by simp; omega, by omega, HL, ?_, HO13, HR13, HW13, hr13.mono (by omega)⟩
              refine Lib.hid fun x hm' => ?_
              rcases List.mem_append.1 hm' with hm' | hm'
              · exact HG11.out x hm'
              · simp at hm'; subst hm'; exact hbd
            case measure => simp [intOf]; omega
          · go_wp2_with fail
            refine (GuessOf_c wb g _ _ hr10 (by omega)).mono ?_
            rintro e w12 ⟨hx, hy, hu, hv, rfl, hbd, hw12, hr12⟩
            have hz12 := hw12.size
            have hzw := HW10.out.size
            have HO12 := Lib.hid (HO10.out.wr hr10 hw12)
            have HR12 := Lib.hid (own_wr HR10.out hr10 (by decide) hw12)
            have HW12 := Lib.hid (HW10.out.trans hw12)
            clear hw12
            go_wp2_with (at_builtin; go_loud (refine wpList_append_sl rfl (.tmp 46) (.tmp 49) 69 rfl w3.heap.size 53 ig _ 4 32 Try.underlying69 hig hg0 hg1 hg2 rfl (by decide) _ G.length (G.flatMap stC) rfl (own_ext_keep HR12.out (Ext.alloc0 _ _)) (some ⟨w12.heap.size, 0, none⟩) 1 1 [.int .i64 hx, .int .i64 hy, .int .i64 hu, .int .i64 hv] rfl rfl (.inr ⟨_, rfl, new_cells rfl⟩) (by intro u hu; simp at hu; rcases hu with rfl | rfl | rfl | rfl <;> rfl) (by unfold maxLen; omega) (by omega) (by simp; omega) ?_))
            intro q' w13 ho13 hg13 _
            have e13 : Ext w12 (w12.alloc (.cells #[.int .i64 hx, .int .i64 hy, .int .i64 hu, .int .i64 hv] 53)) := Ext.alloc0 _ _
            have hrow := own_ext_keep HR12.out e13
            have HO13 := Lib.hid ((HO12.out.ext e13).other hrow (by decide) (by decide) hg13)
            have HR13 : Hid (w13.ownsRow w3.heap.size 53 4 q' (G ++ [(⟨hx, hy, hu, hv⟩ : St)]).length ((G ++ [(⟨hx, hy, hu, hv⟩ : St)]).flatMap stC)) := by
              rw [List.length_append, List.flatMap_append]
              exact ho13
            have HW13 := Lib.hid ((HW12.out.trans (Wr.of g e13)).row hg13 (own_ge hrow (by omega)))
            have hr13 := (hr12.keep e13).row hg13 ((hr12.keep e13).ne hrow (by decide)) (own_ge hrow (by omega))
            clear HO12 HR12 HW12 hrow ho13 hg13 e13
            go_wp2_with fail
            go_roundw
            case rel =>
              refine ⟨m - 1, L, G ++ [⟨hx, hy, hu, hv⟩], q', by go_num, rfl, by omega, by omega, by simp; omega, by simp; omega, by omega, HL, ?_, HO13, HR13, HW13, hr13.mono (by omega)⟩
              refine Lib.hid fun x hm' => ?_
              rcases List.mem_append.1 hm' with hm' | hm'
              · exact HG.out x hm'
              · simp at hm'; subst hm'; exact hbd
            case measure => simp [intOf]; omega
    · have hm0 : m = 0 := by omega
      subst hm0
      have S := HS6.out.wr HW.out hne2
      have hcS := S.cell
      have hlS := S.lt
      have hA := (hA0.ext hrr.ext)
      have hcA := hA.cell
      have hfA := hA.frozen
      have hlA := hA.lt
      have hzq := HW.out.size
      have hO := ho3.wr hr3 HW.out
      have hT := HO.out
      have hG' := HR.out
      have hEq : Ext w wq := hE0.trans hrr.ext
      clear HW HS6 HO HR S
      (try dsimp only); repeat' (first | go_values | go_skip | go_guarded | go_step | go_upon | go_in | go_at_K)
      (try simp only [Exit.inBlock, Exit.then]); apply bodyPost_ret; (focus (simp only [results, Try.results46]; go_simp; try rfl)); rfl
      obtain ⟨A1', c1', A2', c2', A3', c3', e1, e2, e3, hsky⟩ := ((((hO.set (p := ⟨w.heap.size, 0, none⟩) (by dsimp only; omega) _).set (p := ⟨w.heap.size, 1, none⟩) (by dsimp only; omega) _).set (p := ⟨w.heap.size, 2, none⟩) (by dsimp only; omega) _).set (p := ⟨w.heap.size, 3, none⟩) (by dsimp only; omega) _).sky
      injection e1 with e1a e1b e1c; injection e2 with e2a e2b e2c; injection e3 with e3a e3b e3c
      obtain ⟨AT, cT, rfl, hT'⟩ := ((((hT.set (p := ⟨w.heap.size, 0, none⟩) (by dsimp only; omega) _).set (p := ⟨w.heap.size, 1, none⟩) (by dsimp only; omega) _).set (p := ⟨w.heap.size, 2, none⟩) (by dsimp only; omega) _).set (p := ⟨w.heap.size, 3, none⟩) (by dsimp only; omega) _).sl
      have hg1' := own_set hG' (p := ⟨w.heap.size, 0, none⟩) (own_block_ge hG' (by dsimp only; omega)) (.slice A1 n1 c1)
      have hg2' := own_set hg1' (p := ⟨w.heap.size, 1, none⟩) (own_block_ge hg1' (by dsimp only; omega)) (.int .i64 home)
      have hg3' := own_set hg2' (p := ⟨w.heap.size, 2, none⟩) (own_block_ge hg2' (by dsimp only; omega)) (.slice A2 n2 c2)
      have hg4' := own_set hg3' (p := ⟨w.heap.size, 3, none⟩) (own_block_ge hg3' (by dsimp only; omega)) (.slice A3 n3 c3)
      obtain ⟨AG, cG, rfl, hG2⟩ := own_sl st_len (st_read _) hg4'
      have hh := hs3.home
      subst e1a e1b e2a e2b e3a e3b hh
      refine ⟨_, _, _, _, _, _, _, _, _, _, s, _, _, _, L, _, _, _, G, rfl, hsky, hm, hT', hG2, by omega, HL.out, by omega, HG.out, ?_⟩
      iterate 4 refine Ext.set ?_ (by dsimp only; omega) _
      exact hEq
end Go.Proofs.Ytmgjjgmadiabfaa
