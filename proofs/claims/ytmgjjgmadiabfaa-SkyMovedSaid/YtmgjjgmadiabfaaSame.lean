/- Worlds and skies that read as the same data are found equal. No condition. -/
import Derived.Test.YtmgjjgmadiabfaaRefWhere
import Derived.RegionTactic
namespace Go.Proofs.Ytmgjjgmadiabfaa
open Go.RowKit

theorem name_world {Q : World → Prop} (w : World) (h : ∀ W, W = w → Q W) : Q w := h w rfl

set_option maxRecDepth 4000 in
set_option maxHeartbeats 1000000 in
theorem SameWorld_c (A : Option Addr) (n c : Nat) (B : Option Addr) (m d : Nat) (home : Int) (l : List Body) (w : World) (hl : Bodies w A n l) (hm : Bodies w B m l) :
    Calls Try.prog 78 #[.agg #[.slice A n c, .int .i64 home], .agg #[.slice B m d, .int .i64 home]] w fun e w' => e = .returned (.bool true) ∧ Ext w w' := by
  have hn := hl.le
  obtain rfl : m = n := by rw [hl.len, hm.len]
  go_enter Try.func78, Try.ntmps78
  go_wp2_with fail
  go_loopw [5] (fun i wr => ∃ k : Nat, k ≤ m ∧ i = .int .i64 k ∧ Ext ((w.alloc (.cells #[.slice A m c, .int .i64 home] 24)).alloc (.cells #[.slice B m d, .int .i64 home] 24)) wr) (fun i _ => m - (intOf i).toNat)
  case atStart => exact ⟨0, Nat.zero_le _, rfl, Ext.refl _⟩
  case round =>
    obtain ⟨k, hk, rfl, hb⟩ := hrel
    obtain ⟨hcb, hfb, hzb⟩ := bcell hb
    simp only [World.size_alloc] at hzb
    have hwr0 : w.heap.size < wr.heap.size := by omega
    have hwr1 : w.heap.size + 1 < wr.heap.size := by omega
    by_cases hlt : k < m
    · obtain ⟨b, off, x, rfl, HD, hxm, hx⟩ := hl.one hlt
      obtain ⟨b', off', y, rfl, HD', hym, hy⟩ := hm.one hlt
      obtain rfl : x = y := by
        have := HD.out.symm.trans HD'.out
        injection this
      obtain ⟨hx0, hx1, A', n', c', hx2, hx3⟩ := bodyAt.ext (Ext.trans (by (repeat' (first | exact Ext.refl _ | assumption | apply Ext.alloc | apply Ext.drew | refine Ext.set ?_ (by dsimp only; omega) _ | refine Ext.trans ?_ (by assumption)))) hb) hx
      obtain ⟨hy0, hy1, B', m', d', hy2, hy3⟩ := bodyAt.ext (Ext.trans (by (repeat' (first | exact Ext.refl _ | assumption | apply Ext.alloc | apply Ext.drew | refine Ext.set ?_ (by dsimp only; omega) _ | refine Ext.trans ?_ (by assumption)))) hb) hy
      have hn' := hx3.le
      obtain rfl : m' = n' := by rw [hx3.len, hy3.len]
      have hbl : b < wr.heap.size := World.block_lt_of_cell? wr _ hx0
      have hbl' : b' < wr.heap.size := World.block_lt_of_cell? wr _ hy0
      have Hx3 := Lib.hid hx3
      have Hy3 := Lib.hid hy3
      clear hx3 hy3 hx hy hl hm
      go_wp2_with fail
      go_region
      · refine name_world _ ?_
        intro W hW
        have hB6 : Blk W (wr.heap.size) 67 #[.int .i64 x.mu, .int .i64 x.radius, .slice A' m' c'] := by
          rw [hW]; first | exact Blk.ext (Blk.newAt (by simp)) (Ext.drew (Ext.refl _)) | exact Blk.ext (Blk.newAt rfl) (Ext.drew (Ext.alloc0 _ _))
        have hB7 : Blk W (wr.heap.size + 1) 67 #[.int .i64 x.mu, .int .i64 x.radius, .slice B' m' d'] := by
          rw [hW]; first | exact Blk.ext (Blk.newAt (by simp)) (Ext.drew (Ext.refl _)) | exact Blk.ext (Blk.newAt rfl) (Ext.drew (Ext.alloc0 _ _))
        have e1 : Ext wr W := by rw [hW]; (repeat' (first | exact Ext.refl _ | assumption | apply Ext.alloc | apply Ext.drew | refine Ext.set ?_ (by dsimp only; omega) _ | refine Ext.trans ?_ (by assumption)))
        clear hW
        have hc6 := hB6.cell
        have hc7 := hB7.cell
        have hl6 := hB6.lt
        have hl7 := hB7.lt
        have HB6 := Lib.hid hB6
        have HB7 := Lib.hid hB7
        clear hB6 hB7
        go_wp2_with fail
        go_loopw [8] (fun i wr2 => ∃ j : Nat, j ≤ m' ∧ i = .int .i64 j ∧ Ext W wr2) (fun i _ => m' - (intOf i).toNat)
        case atStart => exact ⟨0, Nat.zero_le _, rfl, Ext.refl _⟩
        case round =>
          obtain ⟨j, hj, rfl, hb2⟩ := hrel
          obtain ⟨hcb2, hfb2, hzb2⟩ := bcell hb2
          have hd6 := (HB6.out.ext hb2).cell
          have hd7 := (HB7.out.ext hb2).cell
          have hz6 := Nat.lt_of_lt_of_le hl6 hzb2
          have hz7 := Nat.lt_of_lt_of_le hl7 hzb2
          by_cases hlt2 : j < m'
          · obtain ⟨g, o, p, rfl, HE, _, hp⟩ := Hx3.out.one hlt2
            obtain ⟨g', o', q, rfl, HE', _, hq⟩ := Hy3.out.one hlt2
            obtain rfl : p = q := by
              have := HE.out.symm.trans HE'.out
              injection this
            obtain ⟨hp0, hp1⟩ := vecAt.ext (Ext.trans e1 hb2) hp
            obtain ⟨hq0, hq1⟩ := vecAt.ext (Ext.trans e1 hb2) hq
            have hgl : g < wr.heap.size := World.block_lt_of_cell? wr _ hp0
            have hgl' : g' < wr.heap.size := World.block_lt_of_cell? wr _ hq0
            clear hp hq
            go_wp2_with fail
            refine wp_region_text (by kernel_rfl) (by kernel_rfl) ?_
            repeat' (first | (refine bl_off (by rfl) ?_; simp only [Act.put, List.setIfInBounds_toArray, List.set_cons_zero, List.set_cons_succ]) | (apply bl_op; rfl; (intro w1 h1; obtain ⟨hc, hf, hz⟩ := bcell h1; go_simp; (try go_bits); (first | exact ⟨rfl, Ext.refl _⟩)); simp only [Act.put, List.setIfInBounds_toArray, List.set_cons_zero, List.set_cons_succ]) | (refine bl_split rfl rfl (fun hx => ?_) (fun hx => ?_) <;> simp only [hx]))
            refine bl_nil ?_
            intro w4 h4
            go_wp2_with fail
            go_roundw
            case rel => exact ⟨j + 1, by omega, by go_num, by (repeat' (first | exact Ext.refl _ | assumption | apply Ext.alloc | apply Ext.drew | refine Ext.set ?_ (by dsimp only; omega) _ | refine Ext.trans ?_ (by assumption)))⟩
            case measure => simp [intOf]; omega
          · have : j = m' := by omega
            subst this
            go_wp2_with fail
            go_roundw
            case rel => exact ⟨k + 1, by omega, by go_num, by (repeat' (first | exact Ext.refl _ | assumption | apply Ext.alloc | apply Ext.drew | refine Ext.set ?_ (by dsimp only; omega) _ | refine Ext.trans ?_ (by assumption)))⟩
            case measure => simp [intOf]; omega
      · refine name_world _ ?_
        intro W hW
        have hB6 : Blk W (wr.heap.size + 1) 67 #[.int .i64 x.mu, .int .i64 x.radius, .slice A' m' c'] := by
          rw [hW]; first | exact Blk.ext (Blk.newAt (by simp)) (Ext.drew (Ext.refl _)) | exact Blk.ext (Blk.newAt rfl) (Ext.drew (Ext.alloc0 _ _))
        have hB7 : Blk W (wr.heap.size) 67 #[.int .i64 x.mu, .int .i64 x.radius, .slice B' m' d'] := by
          rw [hW]; first | exact Blk.ext (Blk.newAt (by simp)) (Ext.drew (Ext.refl _)) | exact Blk.ext (Blk.newAt rfl) (Ext.drew (Ext.alloc0 _ _))
        have e1 : Ext wr W := by rw [hW]; (repeat' (first | exact Ext.refl _ | assumption | apply Ext.alloc | apply Ext.drew | refine Ext.set ?_ (by dsimp only; omega) _ | refine Ext.trans ?_ (by assumption)))
        clear hW
        have hc6 := hB6.cell
        have hc7 := hB7.cell
        have hl6 := hB6.lt
        have hl7 := hB7.lt
        have HB6 := Lib.hid hB6
        have HB7 := Lib.hid hB7
        clear hB6 hB7
        go_wp2_with fail
        go_loopw [8] (fun i wr2 => ∃ j : Nat, j ≤ m' ∧ i = .int .i64 j ∧ Ext W wr2) (fun i _ => m' - (intOf i).toNat)
        case atStart => exact ⟨0, Nat.zero_le _, rfl, Ext.refl _⟩
        case round =>
          obtain ⟨j, hj, rfl, hb2⟩ := hrel
          obtain ⟨hcb2, hfb2, hzb2⟩ := bcell hb2
          have hd6 := (HB6.out.ext hb2).cell
          have hd7 := (HB7.out.ext hb2).cell
          have hz6 := Nat.lt_of_lt_of_le hl6 hzb2
          have hz7 := Nat.lt_of_lt_of_le hl7 hzb2
          by_cases hlt2 : j < m'
          · obtain ⟨g, o, p, rfl, HE, _, hp⟩ := Hx3.out.one hlt2
            obtain ⟨g', o', q, rfl, HE', _, hq⟩ := Hy3.out.one hlt2
            obtain rfl : p = q := by
              have := HE.out.symm.trans HE'.out
              injection this
            obtain ⟨hp0, hp1⟩ := vecAt.ext (Ext.trans e1 hb2) hp
            obtain ⟨hq0, hq1⟩ := vecAt.ext (Ext.trans e1 hb2) hq
            have hgl : g < wr.heap.size := World.block_lt_of_cell? wr _ hp0
            have hgl' : g' < wr.heap.size := World.block_lt_of_cell? wr _ hq0
            clear hp hq
            go_wp2_with fail
            refine wp_region_text (by kernel_rfl) (by kernel_rfl) ?_
            repeat' (first | (refine bl_off (by rfl) ?_; simp only [Act.put, List.setIfInBounds_toArray, List.set_cons_zero, List.set_cons_succ]) | (apply bl_op; rfl; (intro w1 h1; obtain ⟨hc, hf, hz⟩ := bcell h1; go_simp; (try go_bits); (first | exact ⟨rfl, Ext.refl _⟩)); simp only [Act.put, List.setIfInBounds_toArray, List.set_cons_zero, List.set_cons_succ]) | (refine bl_split rfl rfl (fun hx => ?_) (fun hx => ?_) <;> simp only [hx]))
            refine bl_nil ?_
            intro w4 h4
            go_wp2_with fail
            go_roundw
            case rel => exact ⟨j + 1, by omega, by go_num, by (repeat' (first | exact Ext.refl _ | assumption | apply Ext.alloc | apply Ext.drew | refine Ext.set ?_ (by dsimp only; omega) _ | refine Ext.trans ?_ (by assumption)))⟩
            case measure => simp [intOf]; omega
          · have : j = m' := by omega
            subst this
            go_wp2_with fail
            go_roundw
            case rel => exact ⟨k + 1, by omega, by go_num, by (repeat' (first | exact Ext.refl _ | assumption | apply Ext.alloc | apply Ext.drew | refine Ext.set ?_ (by dsimp only; omega) _ | refine Ext.trans ?_ (by assumption)))⟩
            case measure => simp [intOf]; omega
    · have : k = m := by omega
      subst this
      clear hl hm
      go_wp2_with fail
      go_ret
      exact ⟨rfl, by (repeat' (first | exact Ext.refl _ | assumption | apply Ext.alloc | apply Ext.drew | refine Ext.set ?_ (by dsimp only; omega) _ | refine Ext.trans ?_ (by assumption)))⟩

set_option maxRecDepth 4000 in
set_option maxHeartbeats 1000000 in
theorem SameSky_c (A1 : Option Addr) (n1 c1 : Nat) (home : Int) (A2 : Option Addr) (n2 c2 : Nat) (A3 : Option Addr) (n3 c3 : Nat) (s : Sky) (B1 : Option Addr) (m1 d1 : Nat) (B2 : Option Addr) (m2 d2 : Nat) (B3 : Option Addr) (m3 d3 : Nat) (w : World) (hs : IsSky w A1 n1 home A2 n2 A3 n3 s) (ht : IsSky w B1 m1 home B2 m2 B3 m3 s) :
    Calls Try.prog 34 #[.agg #[.slice A1 n1 c1, .int .i64 home, .slice A2 n2 c2, .slice A3 n3 c3], .agg #[.slice B1 m1 d1, .int .i64 home, .slice B2 m2 d2, .slice B3 m3 d3]] w fun e w' => e = .returned (.bool true) ∧ Ext w w' := by
  have HW := Lib.hid fun W (hW : Ext w W) => SameWorld_c A1 n1 c1 B1 m1 d1 home s.world.bodies W (hs.ext hW).bodies (ht.ext hW).bodies
  have hl2 := hs.stations
  have hl3 := hs.catalogs
  have hk2 := ht.stations
  have hk3 := ht.catalogs
  clear hs ht
  have hn2 := hl2.le
  have hn3 := hl3.le
  obtain rfl : m2 = n2 := by rw [hl2.len, hk2.len]
  obtain rfl : m3 = n3 := by rw [hl3.len, hk3.len]
  go_enter Try.func34, Try.ntmps34
  go_wp2_with fail
  refine (HW.out _ (by (repeat' (first | exact Ext.refl _ | assumption | apply Ext.alloc | apply Ext.drew | refine Ext.set ?_ (by dsimp only; omega) _ | refine Ext.trans ?_ (by assumption))))).mono ?_
  rintro e w1 ⟨rfl, h1⟩; obtain ⟨hc_w1, hf_w1, hz_w1⟩ := bcell h1; (repeat (first | rw [World.size_alloc] at hz_w1 | rw [World.size_drew] at hz_w1 | rw [World.size_setCell] at hz_w1)); have : w.heap.size < w1.heap.size := (by omega); have : w.heap.size + 1 < w1.heap.size := (by omega)
  go_wp2_with fail
  go_loopw [5] (fun i wr => ∃ k : Nat, k ≤ m2 ∧ i = .int .i64 k ∧ Ext w1 wr) (fun i _ => m2 - (intOf i).toNat)
  case atStart => exact ⟨0, Nat.zero_le _, rfl, Ext.refl _⟩
  case round =>
    obtain ⟨k, hk, rfl, hb⟩ := hrel
    obtain ⟨hcb, hfb, hzb⟩ := bcell hb
    have hwr0 : w.heap.size < wr.heap.size := by omega
    have hwr1 : w.heap.size + 1 < wr.heap.size := by omega
    by_cases hlt : k < m2
    · obtain ⟨b, off, x, rfl, HD, hxm, hx⟩ := hl2.one hlt
      obtain ⟨b', off', y, rfl, HD', hym, hy⟩ := hk2.one hlt
      obtain rfl : x = y := by
        have := HD.out.symm.trans HD'.out
        injection this
      obtain ⟨hx0, hx1, hx2⟩ := stnAt.ext (show Ext w wr by (repeat' (first | exact Ext.refl _ | assumption | apply Ext.alloc | apply Ext.drew | refine Ext.set ?_ (by dsimp only; omega) _ | refine Ext.trans ?_ (by assumption)))) hx
      obtain ⟨hy0, hy1, hy2⟩ := stnAt.ext (show Ext w wr by (repeat' (first | exact Ext.refl _ | assumption | apply Ext.alloc | apply Ext.drew | refine Ext.set ?_ (by dsimp only; omega) _ | refine Ext.trans ?_ (by assumption)))) hy
      have hbl : b < wr.heap.size := World.block_lt_of_cell? wr _ hx0
      have hbl' : b' < wr.heap.size := World.block_lt_of_cell? wr _ hy0
      clear hx hy
      go_wp2_with fail
      refine wp_region_text (by kernel_rfl) (by kernel_rfl) ?_
      repeat' (first | (refine bl_off (by rfl) ?_; simp only [Act.put, List.setIfInBounds_toArray, List.set_cons_zero, List.set_cons_succ]) | (apply bl_op; rfl; (intro w1 h1; obtain ⟨hc, hf, hz⟩ := bcell h1; go_simp; (try go_bits); (first | exact ⟨rfl, Ext.refl _⟩)); simp only [Act.put, List.setIfInBounds_toArray, List.set_cons_zero, List.set_cons_succ]) | (refine bl_split rfl rfl (fun hx => ?_) (fun hx => ?_) <;> simp only [hx]))
      refine bl_nil ?_
      intro w4 h4
      go_wp2_with fail
      go_roundw
      case rel => exact ⟨k + 1, by omega, by go_num, by (repeat' (first | exact Ext.refl _ | assumption | apply Ext.alloc | apply Ext.drew | refine Ext.set ?_ (by dsimp only; omega) _ | refine Ext.trans ?_ (by assumption)))⟩
      case measure => simp [intOf]; omega
    · have : k = m2 := by omega
      subst this
      clear hl2 hk2
      go_wp2_with fail
      go_loopw [6] (fun i wr2 => ∃ k : Nat, k ≤ m3 ∧ i = .int .i64 k ∧ Ext wr wr2) (fun i _ => m3 - (intOf i).toNat)
      case atStart => exact ⟨0, Nat.zero_le _, rfl, Ext.refl _⟩
      case round =>
        obtain ⟨j, hj, rfl, hb2⟩ := hrel
        obtain ⟨hcb2, hfb2, hzb2⟩ := bcell hb2
        have hwr2 : w.heap.size < wr.heap.size := by omega
        have hwr3 : w.heap.size + 1 < wr.heap.size := by omega
        by_cases hlt : j < m3
        · obtain ⟨b, off, x, rfl, HD, hxm, hx⟩ := hl3.one hlt
          obtain ⟨b', off', y, rfl, HD', hym, hy⟩ := hk3.one hlt
          obtain rfl : x = y := by
            have := HD.out.symm.trans HD'.out
            injection this
          obtain ⟨hx0, hx1, hx2⟩ := catAt.ext (show Ext w wr by (repeat' (first | exact Ext.refl _ | assumption | apply Ext.alloc | apply Ext.drew | refine Ext.set ?_ (by dsimp only; omega) _ | refine Ext.trans ?_ (by assumption)))) hx
          obtain ⟨hy0, hy1, hy2⟩ := catAt.ext (show Ext w wr by (repeat' (first | exact Ext.refl _ | assumption | apply Ext.alloc | apply Ext.drew | refine Ext.set ?_ (by dsimp only; omega) _ | refine Ext.trans ?_ (by assumption)))) hy
          have hbl : b < wr.heap.size := World.block_lt_of_cell? wr _ hx0
          have hbl' : b' < wr.heap.size := World.block_lt_of_cell? wr _ hy0
          clear hx hy
          go_wp2_with fail
          refine wp_region_text (by kernel_rfl) (by kernel_rfl) ?_
          repeat' (first | (refine bl_off (by rfl) ?_; simp only [Act.put, List.setIfInBounds_toArray, List.set_cons_zero, List.set_cons_succ]) | (apply bl_op; rfl; (intro w1 h1; obtain ⟨hc, hf, hz⟩ := bcell h1; go_simp; (try go_bits); (first | exact ⟨rfl, Ext.refl _⟩)); simp only [Act.put, List.setIfInBounds_toArray, List.set_cons_zero, List.set_cons_succ]) | (refine bl_split rfl rfl (fun hx => ?_) (fun hx => ?_) <;> simp only [hx]))
          refine bl_nil ?_
          intro w4 h4
          go_wp2_with fail
          go_roundw
          case rel => exact ⟨j + 1, by omega, by go_num, by (repeat' (first | exact Ext.refl _ | assumption | apply Ext.alloc | apply Ext.drew | refine Ext.set ?_ (by dsimp only; omega) _ | refine Ext.trans ?_ (by assumption)))⟩
          case measure => simp [intOf]; omega
        · have : j = m3 := by omega
          subst this
          clear hl3 hk3
          go_wp2_with fail
          go_ret
          exact ⟨rfl, by (repeat' (first | exact Ext.refl _ | assumption | apply Ext.alloc | apply Ext.drew | refine Ext.set ?_ (by dsimp only; omega) _ | refine Ext.trans ?_ (by assumption)))⟩
end Go.Proofs.Ytmgjjgmadiabfaa
