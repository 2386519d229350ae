/- A sight made of numbers. No condition. -/
import Derived.Test.YtfniicgoeljmdaaGreatMade
import Derived.Test.YtfniicgoeljmdaaGreatRefWhere
namespace Go.Proofs.YtfniicgoeljmdaaGreat
open Go.RowKit

theorem half (n : Int) : ∃ q, Int.tdiv n 2 = q ∧ (0 ≤ n → 0 ≤ q ∧ 2 * q ≤ n ∧ n ≤ 2 * q + 1) ∧ (n ≤ 0 → q ≤ 0 ∧ n ≤ 2 * q ∧ 2 * q ≤ n + 1) := by
  refine ⟨_, rfl, fun h => ?_, fun h => ?_⟩
  · rw [Int.tdiv_eq_ediv_of_nonneg h]; omega
  · obtain ⟨m, rfl⟩ : ∃ m, n = -m := ⟨-n, by omega⟩
    rw [Int.neg_tdiv, Int.tdiv_eq_ediv_of_nonneg (by omega)]; omega
section
variable {w : World} {g b : Nat} {t : TypeId} {a0 a1 a2 a3 a4 a5 a6 a7 a8 : Value}
def set9 (w : World) (b : Nat) (u0 u1 u2 u3 u4 u5 u6 u7 u8 : Value) : World :=
  ((((((((w.setCell ⟨b, 0, none⟩ u0).setCell ⟨b, 1, none⟩ u1).setCell ⟨b, 2, none⟩ u2).setCell ⟨b, 3, none⟩ u3).setCell ⟨b, 4, none⟩ u4).setCell ⟨b, 5, none⟩ u5).setCell ⟨b, 6, none⟩ u6).setCell ⟨b, 7, none⟩ u7).setCell ⟨b, 8, none⟩ u8
theorem Blk.set9 (u0 u1 u2 u3 u4 u5 u6 u7 u8 : Value) (h : Blk w b t #[a0, a1, a2, a3, a4, a5, a6, a7, a8]) : Blk (set9 w b u0 u1 u2 u3 u4 u5 u6 u7 u8) b t #[u0, u1, u2, u3, u4, u5, u6, u7, u8] := by
  have h0 : Blk (w.setCell ⟨b, 0, none⟩ u0) b t #[u0, a1, a2, a3, a4, a5, a6, a7, a8] := h.set_ 0 u0
  have h1 : Blk ((w.setCell ⟨b, 0, none⟩ u0).setCell ⟨b, 1, none⟩ u1) b t #[u0, u1, a2, a3, a4, a5, a6, a7, a8] := h0.set_ 1 u1
  have h2 : Blk (((w.setCell ⟨b, 0, none⟩ u0).setCell ⟨b, 1, none⟩ u1).setCell ⟨b, 2, none⟩ u2) b t #[u0, u1, u2, a3, a4, a5, a6, a7, a8] := h1.set_ 2 u2
  have h3 : Blk ((((w.setCell ⟨b, 0, none⟩ u0).setCell ⟨b, 1, none⟩ u1).setCell ⟨b, 2, none⟩ u2).setCell ⟨b, 3, none⟩ u3) b t #[u0, u1, u2, u3, a4, a5, a6, a7, a8] := h2.set_ 3 u3
  have h4 : Blk (((((w.setCell ⟨b, 0, none⟩ u0).setCell ⟨b, 1, none⟩ u1).setCell ⟨b, 2, none⟩ u2).setCell ⟨b, 3, none⟩ u3).setCell ⟨b, 4, none⟩ u4) b t #[u0, u1, u2, u3, u4, a5, a6, a7, a8] := h3.set_ 4 u4
  have h5 : Blk ((((((w.setCell ⟨b, 0, none⟩ u0).setCell ⟨b, 1, none⟩ u1).setCell ⟨b, 2, none⟩ u2).setCell ⟨b, 3, none⟩ u3).setCell ⟨b, 4, none⟩ u4).setCell ⟨b, 5, none⟩ u5) b t #[u0, u1, u2, u3, u4, u5, a6, a7, a8] := h4.set_ 5 u5
  have h6 : Blk (((((((w.setCell ⟨b, 0, none⟩ u0).setCell ⟨b, 1, none⟩ u1).setCell ⟨b, 2, none⟩ u2).setCell ⟨b, 3, none⟩ u3).setCell ⟨b, 4, none⟩ u4).setCell ⟨b, 5, none⟩ u5).setCell ⟨b, 6, none⟩ u6) b t #[u0, u1, u2, u3, u4, u5, u6, a7, a8] := h5.set_ 6 u6
  have h7 : Blk ((((((((w.setCell ⟨b, 0, none⟩ u0).setCell ⟨b, 1, none⟩ u1).setCell ⟨b, 2, none⟩ u2).setCell ⟨b, 3, none⟩ u3).setCell ⟨b, 4, none⟩ u4).setCell ⟨b, 5, none⟩ u5).setCell ⟨b, 6, none⟩ u6).setCell ⟨b, 7, none⟩ u7) b t #[u0, u1, u2, u3, u4, u5, u6, u7, a8] := h6.set_ 7 u7
  have h8 : Blk (((((((((w.setCell ⟨b, 0, none⟩ u0).setCell ⟨b, 1, none⟩ u1).setCell ⟨b, 2, none⟩ u2).setCell ⟨b, 3, none⟩ u3).setCell ⟨b, 4, none⟩ u4).setCell ⟨b, 5, none⟩ u5).setCell ⟨b, 6, none⟩ u6).setCell ⟨b, 7, none⟩ u7).setCell ⟨b, 8, none⟩ u8) b t #[u0, u1, u2, u3, u4, u5, u6, u7, u8] := h7.set_ 8 u8
  exact h8
theorem Wr.set9 {w0 : World} (u0 u1 u2 u3 u4 u5 u6 u7 u8 : Value) (h : Wr w0 g w) (hb : w0.heap.size ≤ b) : Wr w0 g (set9 w b u0 u1 u2 u3 u4 u5 u6 u7 u8) :=
  Wr.put (p := ⟨b, 8, none⟩) (Wr.put (p := ⟨b, 7, none⟩) (Wr.put (p := ⟨b, 6, none⟩) (Wr.put (p := ⟨b, 5, none⟩) (Wr.put (p := ⟨b, 4, none⟩) (Wr.put (p := ⟨b, 3, none⟩) (Wr.put (p := ⟨b, 2, none⟩) (Wr.put (p := ⟨b, 1, none⟩) (Wr.put (p := ⟨b, 0, none⟩) h hb u0) hb u1) hb u2) hb u3) hb u4) hb u5) hb u6) hb u7) hb u8
theorem IsRing.set9 {wb : World} {B : Int} (u0 u1 u2 u3 u4 u5 u6 u7 u8 : Value) (h : IsRing wb w g B) (hb : wb.heap.size ≤ b) (hne : b ≠ g) : IsRing wb (set9 w b u0 u1 u2 u3 u4 u5 u6 u7 u8) g B :=
  have k : wb.heap.size ≤ b ∧ b ≠ g := ⟨hb, hne⟩
  IsRing.put (p := ⟨b, 8, none⟩) (IsRing.put (p := ⟨b, 7, none⟩) (IsRing.put (p := ⟨b, 6, none⟩) (IsRing.put (p := ⟨b, 5, none⟩) (IsRing.put (p := ⟨b, 4, none⟩) (IsRing.put (p := ⟨b, 3, none⟩) (IsRing.put (p := ⟨b, 2, none⟩) (IsRing.put (p := ⟨b, 1, none⟩) (IsRing.put (p := ⟨b, 0, none⟩) h k u0) k u1) k u2) k u3) k u4) k u5) k u6) k u7) k u8
end
theorem Wr.fr {w w' : World} {n0 g : Nat} (h : Wr w g w') : Fr n0 g w w' := ⟨h.size, fun _ _ hb _ _ k => k.wr h hb⟩

set_option maxRecDepth 4000 in
set_option maxHeartbeats 8000000 in
theorem SightFar_c (wb : World) (g : Nat) (B : Int) (A1 : Option Addr) (n1 c1 : Nat) (home : Int) (A2 : Option Addr) (n2 c2 : Nat) (A3 : Option Addr) (n3 c3 : Nat) (s : Sky) (tick px py : Int) (w : World) (hr : IsRing wb w g B) (hB : B ≤ 800000000) (hs : IsSky w A1 n1 home A2 n2 A3 n3 s) (hm : MadeSky s) (ht : 0 ≤ tick ∧ tick ≤ 1000) (hpx : -33554432 ≤ px ∧ px ≤ 33554432) (hpy : -33554432 ≤ py ∧ py ≤ 33554432) :
    Calls Tryz.prog 63 #[.pointer (some ⟨g, 0, none⟩), .agg #[.slice A1 n1 c1, .int .i64 home, .slice A2 n2 c2, .slice A3 n3 c3], .int .i64 tick, .agg #[.int .i64 px, .int .i64 py]] w fun e w' =>
      ∃ kind st cat dx dy er lo hi, e = .returned (.agg #[.int .i64 kind, .int .i64 st, .int .i64 cat, .int .i64 tick, .int .i64 dx, .int .i64 dy, .int .i64 er, .int .i64 lo, .int .i64 hi]) ∧ MadeSight s ⟨kind, st, cat, tick, dx, dy, er, lo, hi⟩ ∧ Wr w g w' ∧ IsRing wb w' g (B + 10) := by
  obtain ⟨hpx1, hpx2⟩ := hpx
  obtain ⟨hpy1, hpy2⟩ := hpy
  have hg := hr.lt
  have hsz := hr.ext.size
  have hge := hr.ge
  have hns := hm.ns
  have hnc := hm.nc
  have hn2 : s.stations.length = n2 := hs.stations.len.symm
  have hn3 : s.catalogs.length = n3 := hs.catalogs.len.symm
  have hg0 : w.heap.size ≠ g := by omega
  have hg1 : w.heap.size + 1 ≠ g := by omega
  have hg2 : w.heap.size + 1 + 1 ≠ g := by omega
  obtain ⟨b2, o2, rfl, hst⟩ := hs.stations.at_ (by omega)
  obtain ⟨b3, o3, rfl, hct⟩ := hs.catalogs.at_ (by omega)
  have hb2 : b2 < w.heap.size := World.block_lt_of_cell? w _ (hst 0 (by omega)).1
  have hb3 : b3 < w.heap.size := World.block_lt_of_cell? w _ (hct 0 (by omega)).1
  have hb2g : b2 ≠ g := hr.two (hst 0 (by omega)).1 (hst 0 (by omega)).2.1
  have hb3g : b3 ≠ g := hr.two (hct 0 (by omega)).1 (hct 0 (by omega)).2.1
  have Hst := Lib.hid hst
  have Hct := Lib.hid hct
  clear hst hct
  go_enter Tryz.func63, Tryz.ntmps63
  go_wp2_with fail
  obtain ⟨W0, hW0⟩ : ∃ W, W = ((w.alloc (.cells #[.slice A1 n1 c1, .int .i64 home, .slice (some ⟨b2, o2, none⟩) n2 c2, .slice (some ⟨b3, o3, none⟩) n3 c3] 53)).alloc (.cells #[.int .i64 px, .int .i64 py] 85)).alloc (.cells #[.int .i64 0, .int .i64 0, .int .i64 0, .int .i64 0, .int .i64 0, .int .i64 0, .int .i64 0, .int .i64 0, .int .i64 0] 87) := ⟨_, rfl⟩
  rw [← hW0]
  have hE0 : Ext w W0 := by rw [hW0]; exact ext_by
  have hz0 : W0.heap.size = w.heap.size + 1 + 1 + 1 := by rw [hW0]; simp
  have hS0 : Blk W0 w.heap.size 53 #[.slice A1 n1 c1, .int .i64 home, .slice (some ⟨b2, o2, none⟩) n2 c2, .slice (some ⟨b3, o3, none⟩) n3 c3] := by rw [hW0]; exact (((Blk.newAt rfl).alloc _).alloc _)
  have hV0 : Blk W0 (w.heap.size + 1) 85 #[.int .i64 px, .int .i64 py] := by rw [hW0]; exact ((Blk.newAt (by simp)).alloc _)
  have hR0 : Blk W0 (w.heap.size + 1 + 1) 87 #[.int .i64 0, .int .i64 0, .int .i64 0, .int .i64 0, .int .i64 0, .int .i64 0, .int .i64 0, .int .i64 0, .int .i64 0] := by rw [hW0]; exact (Blk.newAt (by simp))
  have hr0 : IsRing wb W0 g B := hr.keep hE0
  have hs0 := hs.ext hE0
  have Hst0 : Hid (∀ k (h : k < s.stations.length), W0.cell? ⟨b2, o2 + k * 3, none⟩ = some (.int .i64 s.stations[k].id)) := Lib.hid fun k h => hE0.cell (Hst.out k h).1
  have Hct0 : Hid (∀ k (h : k < s.catalogs.length), W0.cell? ⟨b3, o3 + k * 3, none⟩ = some (.int .i64 s.catalogs[k].version)) := Lib.hid fun k h => hE0.cell (Hct.out k h).1
  clear hW0
  have hSc := hS0.cell
  have hSl := hS0.lt
  have hgl : g < W0.heap.size := hr0.lt
  have hbl2 : b2 < W0.heap.size := by omega
  have hbl3 : b3 < W0.heap.size := by omega
  have hl0 : w.heap.size < W0.heap.size := by omega
  have hl1 : w.heap.size + 1 < W0.heap.size := by omega
  have hl2 : w.heap.size + 1 + 1 < W0.heap.size := by omega
  clear hz0 hSl
  refine wp_region_chain1 true [([0, 3, 4, 5, 6, 7, 8, 9, 14, 15, 16, 17, 18, 19], 1), ([2], 10), ([11, 12, 13], 20)] [21, 22, 23, 24] 25 [26] (Wr W0 g) (fun w' => Wr W0 g w' ∧ IsRing wb w' g B) W0.heap.size g 87 #[.int .i64 0, .int .i64 0, .int .i64 0, .int .i64 0, .int .i64 0, .int .i64 0, .int .i64 0, .int .i64 0, .int .i64 0] ((Wr.stable W0 g).and (Stable.ring _ _ _)) (fun w h => h.1) ⟨(Wr.refl _ _).drew, hr0.drew⟩ (by kernel_rfl) (by kernel_rfl) rfl (fun a w => by simp only [pick1, List.drop_succ_cons, List.drop_zero]; go_simp) (fun w h => ⟨h.size, Nat.lt_of_lt_of_le hgl h.size⟩) ?_
  simp only [XO, pick, List.drop_succ_cons, List.drop_zero]
  repeat' (first | (refine bl_off (by rfl) ?_; simp only [putX]) | (apply bl_op; rfl; (intro w1 h1; obtain ⟨hc, hf, hz⟩ := Wr.cells h1; go_simp; (try go_bits); (first | exact ⟨rfl, Ext.refl _⟩)); simp only [putX]) | (refine bl_split rfl rfl (fun hx => ?_) (fun hx => ?_) <;> simp only [hx]))
  refine bl_nil ?_
  try simp only [pick1, List.drop_succ_cons, List.drop_zero]
  refine xe_callA (f := 62) (args := #[.pointer (some ⟨g, 0, none⟩), .int .i64 3]) (fun v => ∃ x : Int, v = .int .i64 x ∧ 0 ≤ x ∧ x < 3) (fun w => Wr W0 g w ∧ IsRing wb w g (B + 1)) rfl ((Wr.stable W0 g).and (Stable.ring _ _ _)) (fun w h => h.1) (fun w h => by go_simp) (fun w h => ?_) ?_
  · refine (Next_c wb g B 3 w h.2 (by omega) (by omega) (by omega)).mono ?_
    rintro e w' ⟨x, rfl, p1, p2, k1, k2⟩
    exact ⟨_, rfl, ⟨x, rfl, p1, p2⟩, ⟨h.1.trans k1, k2⟩, k1.fr⟩
  rintro v ⟨kd, rfl, hkd0, hkd1⟩
  simp only [putX]
  repeat' (first | (refine bl_off (by rfl) ?_; simp only [putX]) | (apply bl_op; rfl; (intro w1 h1; obtain ⟨hc, hf, hz⟩ := Wr.cells h1; go_simp; (try go_bits); (first | exact ⟨rfl, Ext.refl _⟩)); simp only [putX]) | (refine bl_split rfl rfl (fun hx => ?_) (fun hx => ?_) <;> simp only [hx]))
  refine bl_nil ?_
  try simp only [pick1, List.drop_succ_cons, List.drop_zero]
  refine xe_callA (f := 62) (args := #[.pointer (some ⟨g, 0, none⟩), .int .i64 n2]) (fun v => ∃ x : Int, v = .int .i64 x ∧ 0 ≤ x ∧ x < n2) (fun w => Wr W0 g w ∧ IsRing wb w g (B + 2)) rfl ((Wr.stable W0 g).and (Stable.ring _ _ _)) (fun w h => h.1) (fun w h => by go_simp) (fun w h => ?_) ?_
  · refine (Next_c wb g (B + 1) n2 w h.2 (by omega) (by omega) (by omega)).mono ?_
    rintro e w' ⟨x, rfl, p1, p2, k1, k2⟩
    exact ⟨_, rfl, ⟨x, rfl, p1, p2⟩, ⟨h.1.trans k1, k2.mono (by omega)⟩, k1.fr⟩
  rintro v ⟨i2, rfl, hi20, hi21⟩
  obtain ⟨k2, rfl⟩ : ∃ k : Nat, i2 = k := ⟨i2.toNat, by omega⟩
  have hk2 : k2 < s.stations.length := by omega
  have hk2n : k2 < n2 := by omega
  have hq2 := Hst0.out k2 hk2
  simp only [putX]
  repeat' (first | (refine bl_off (by rfl) ?_; simp only [putX]) | (apply bl_op; rfl; (intro w1 h1; obtain ⟨hc, hf, hz⟩ := Wr.cells h1; go_simp; (try go_bits); (first | exact ⟨rfl, Ext.refl _⟩)); simp only [putX]) | (refine bl_split rfl rfl (fun hx => ?_) (fun hx => ?_) <;> simp only [hx]))
  refine bl_nil ?_
  try simp only [pick1, List.drop_succ_cons, List.drop_zero]
  refine xe_callA (f := 62) (args := #[.pointer (some ⟨g, 0, none⟩), .int .i64 n3]) (fun v => ∃ x : Int, v = .int .i64 x ∧ 0 ≤ x ∧ x < n3) (fun w => Wr W0 g w ∧ IsRing wb w g (B + 3)) rfl ((Wr.stable W0 g).and (Stable.ring _ _ _)) (fun w h => h.1) (fun w h => by go_simp) (fun w h => ?_) ?_
  · refine (Next_c wb g (B + 2) n3 w h.2 (by omega) (by omega) (by omega)).mono ?_
    rintro e w' ⟨x, rfl, p1, p2, k1, k2⟩
    exact ⟨_, rfl, ⟨x, rfl, p1, p2⟩, ⟨h.1.trans k1, k2.mono (by omega)⟩, k1.fr⟩
  rintro v ⟨i3, rfl, hi30, hi31⟩
  obtain ⟨k3, rfl⟩ : ∃ k : Nat, i3 = k := ⟨i3.toNat, by omega⟩
  have hk3 : k3 < s.catalogs.length := by omega
  have hk3n : k3 < n3 := by omega
  have hq3 := Hct0.out k3 hk3
  simp only [putX]
  repeat' (first | (refine bl_off (by rfl) ?_; simp only [putX]) | (apply bl_op; rfl; (intro w1 h1; obtain ⟨hc, hf, hz⟩ := Wr.cells h1; go_simp; (try go_bits); (first | exact ⟨rfl, Ext.refl _⟩)); simp only [putX]) | (refine bl_split rfl rfl (fun hx => ?_) (fun hx => ?_) <;> simp only [hx]))
  refine bl_nil ?_
  intro bx hbx hbg
  have hst : Hid ((stnOf s.stations s.stations[k2].id).isSome = true) := stn_some (List.getElem_mem hk2)
  have hct : Hid ((catOf s.catalogs s.catalogs[k3].version).isSome = true) := cat_some (List.getElem_mem hk3)
  generalize s.stations[k2].id = st at hst hq2 ⊢
  generalize s.catalogs[k3].version = cat at hct hq3 ⊢
  clear hq2 hq3 hSc
  obtain ⟨kind, hkind⟩ : ∃ k, k = 1 + kd := ⟨_, rfl⟩
  rw [← hkind]
  have hkind1 : 1 ≤ kind ∧ kind ≤ 3 := by omega
  clear hkind hkd0 hkd1
  simp only [List.setIfInBounds_toArray, List.set_cons_zero, List.set_cons_succ]
  refine tl_last rfl rfl (fun w2 ⟨⟨h2, hr2⟩, hB⟩ => ?_)
  have hcB := hB.cell
  have hfB := hB.frozen
  refine ⟨_, (by go_simp; rfl), ?_⟩
  have R1 := Blk.set9 (.int .i64 kind) (.int .i64 st) (.int .i64 cat) (.int .i64 tick) (.int .i64 0) (.int .i64 0) (.int .i64 0) (.int .i64 0) (.int .i64 0) hB
  have R2 := h2.set9 (.int .i64 kind) (.int .i64 st) (.int .i64 cat) (.int .i64 tick) (.int .i64 0) (.int .i64 0) (.int .i64 0) (.int .i64 0) (.int .i64 0) hbx
  have R3 := hr2.set9 (.int .i64 kind) (.int .i64 st) (.int .i64 cat) (.int .i64 tick) (.int .i64 0) (.int .i64 0) (.int .i64 0) (.int .i64 0) (.int .i64 0) (by omega) hbg
  unfold set9 at R1 R2 R3
  revert R1 R2 R3
  generalize World.setCell _ _ _ = W5
  intro R1 R2 R3
  clear hcB hfB hB h2 hr2
  have hs5 := hs0.wr hr0 R2
  have hS5 := hS0.wr R2 hg0
  have hV5 := hV0.wr R2 hg1
  have hR5 := hR0.wr R2 hg2
  have hW5 : Hid (Wr w g W5) := Lib.hid ((Wr.of g hE0).trans R2)
  have hcS := hS5.cell
  have hcX := R1.cell
  have hlS := hS5.lt
  have hlX := R1.lt
  have hlR := hR5.lt
  have hbxr : bx ≠ w.heap.size + 1 + 1 := by omega
  have HWH := Lib.hid fun W (hW : Ext W5 W) => refWhere_c A1 n1 c1 home (some ⟨b2, o2, none⟩) n2 c2 (some ⟨b3, o3, none⟩) n3 c3 s st tick W (hs5.ext hW)
  obtain ⟨o, ho, ⟨hox1, hox2⟩, hoy1, hoy2⟩ := hm.orig hst.out (t := tick) (by omega)
  rw [ho] at HWH
  simp only [optV, Option.isSome_some] at HWH
  clear ho
  clear hs5 hs0 hS0 hV0 hR0 hS5 Hst0 Hct0 Hst Hct
  go_wp2_with fail
  refine (HWH.out _ (Ext.refl _)).mono ?_
  rintro e w1 ⟨rfl, h1⟩; obtain ⟨hc_w1, hf_w1, hz_w1⟩ := bcell h1; (try simp only [szA] at hz_w1)
  go_wp2_with fail
  have hV1 := hV5.ext h1
  have hX1 := R1.ext h1
  have hr1 := R3.keep h1
  have hR1 := hR5.ext h1
  have hW1 : Hid (Wr w g w1) := Lib.hid (hW5.out.trans (Wr.of g h1))
  have hcV := hV1.cell
  have hlV1 := hV1.lt
  have hlX1 := hX1.lt
  have hlw1 : w.heap.size < w1.heap.size := by omega
  have hlR1 := hR1.lt
  have hlg1 := hr1.lt
  have hHid := Lib.hid (And.intro hX1 hR1)
  clear hR5 hV5 R1 hcS hcX R2 R3 HWH hX1 hR1 hV1 hc_w1 hf_w1
  refine wp_region_text (by kernel_rfl) (by kernel_rfl) ?_
  repeat' (first | (refine bl_off (by rfl) ?_; simp only [putX]) | (apply bl_op; rfl; (intro w1 h1; obtain ⟨hc, hf, hz⟩ := bcell h1; go_simp; (try go_bits); (first | exact ⟨rfl, Ext.refl _⟩)); simp only [putX]) | (refine bl_split rfl rfl (fun hx => ?_) (fun hx => ?_) <;> simp only [hx]))
  refine bl_nil ?_
  intro w3 h3
  have e13 : Ext w1 w3 := ext_by
  have hr3 := hr1.keep e13
  have hX3 := hHid.out.1.ext e13
  have hR3 := hHid.out.2.ext e13
  have hW3 : Hid (Wr w g w3) := Lib.hid (hW1.out.trans (Wr.of g e13))
  have hlX3 := hX3.lt
  have hlR3 := hR3.lt
  have hlR3' : w.heap.size + 1 < w3.heap.size := by omega
  obtain ⟨dx0, hdx0⟩ : ∃ d, d = px - o.x := ⟨_, rfl⟩
  obtain ⟨dy0, hdy0⟩ : ∃ d, d = py - o.y := ⟨_, rfl⟩
  rw [← hdx0, ← hdy0]
  have hdx1 : -33556472 ≤ dx0 ∧ dx0 ≤ 33556472 := by omega
  have hdy1 : -33556472 ≤ dy0 ∧ dy0 ≤ 33556472 := by omega
  clear hdx0 hdy0 hr1 hHid hW1 hcV e13 h3 hlV1 hlX1 hlR1 hlg1 hlw1
  go_wp2_with fail
  refine (Next_c wb g _ _ _ hr3 (by omega) (by omega) (by omega)).mono ?_; rintro e w4 ⟨v4, rfl, va4, vb4, hw4, hr4⟩; obtain ⟨hc4, hf4, hz4⟩ := Wr.cells hw4; (try simp only [szA] at hz4); have hg4 := hr4.lt
  have hX4 := hX3.wr hw4 hbg
  have hR4 := hR3.wr hw4 hg2
  have hW4 : Hid (Wr w g w4) := Lib.hid (hW3.out.trans hw4)
  have hcX4 := hX4.cell
  have hfX4 := hX4.frozen
  have hlX4 := hX4.lt
  have hlR4 := hR4.lt
  have HR4 := Lib.hid hR4
  have HX4 := Lib.hid hX4
  clear hX3 hR3 hW3 hc4 hf4 hw4 hX4 hR4
  go_wp2_with fail
  have Y1 : Blk (w4.setCell ⟨bx, 4, none⟩ (.int .i64 dx0)) bx 87 #[.int .i64 kind, .int .i64 st, .int .i64 cat, .int .i64 tick, .int .i64 dx0, .int .i64 0, .int .i64 0, .int .i64 0, .int .i64 0] := HX4.out.set_ 4 _
  have Y2 : Blk ((w4.setCell ⟨bx, 4, none⟩ (.int .i64 dx0)).setCell ⟨bx, 5, none⟩ (.int .i64 dy0)) bx 87 #[.int .i64 kind, .int .i64 st, .int .i64 cat, .int .i64 tick, .int .i64 dx0, .int .i64 dy0, .int .i64 0, .int .i64 0, .int .i64 0] := Y1.set_ 5 _
  have Y3 : Hid (Blk (((w4.setCell ⟨bx, 4, none⟩ (.int .i64 dx0)).setCell ⟨bx, 5, none⟩ (.int .i64 dy0)).setCell ⟨bx, 6, none⟩ (.int .i64 v4)) bx 87 #[.int .i64 kind, .int .i64 st, .int .i64 cat, .int .i64 tick, .int .i64 dx0, .int .i64 dy0, .int .i64 v4, .int .i64 0, .int .i64 0]) := Lib.hid (Y2.set_ 6 _)
  have Y4 : Hid (Blk (((w4.setCell ⟨bx, 4, none⟩ (.int .i64 dx0)).setCell ⟨bx, 5, none⟩ (.int .i64 dy0)).setCell ⟨bx, 6, none⟩ (.int .i64 v4)) (w.heap.size + 1 + 1) 87 #[.int .i64 0, .int .i64 0, .int .i64 0, .int .i64 0, .int .i64 0, .int .i64 0, .int .i64 0, .int .i64 0, .int .i64 0]) :=
    Lib.hid (((HR4.out.far (p := ⟨bx, 4, none⟩) hbxr.symm _).far (p := ⟨bx, 5, none⟩) hbxr.symm _).far (p := ⟨bx, 6, none⟩) hbxr.symm _)
  have Y5 : Hid (Wr w g (((w4.setCell ⟨bx, 4, none⟩ (.int .i64 dx0)).setCell ⟨bx, 5, none⟩ (.int .i64 dy0)).setCell ⟨bx, 6, none⟩ (.int .i64 v4))) := Lib.hid (Wr.put (p := ⟨bx, 6, none⟩) (Wr.put (p := ⟨bx, 5, none⟩) (Wr.put (p := ⟨bx, 4, none⟩) hW4.out (by dsimp only; omega) _) (by dsimp only; omega) _) (by dsimp only; omega) _)
  have hbwb : wb.heap.size ≤ bx ∧ bx ≠ g := ⟨by omega, hbg⟩
  have Y6 : IsRing wb (((w4.setCell ⟨bx, 4, none⟩ (.int .i64 dx0)).setCell ⟨bx, 5, none⟩ (.int .i64 dy0)).setCell ⟨bx, 6, none⟩ (.int .i64 v4)) g (B + 4) := IsRing.put (p := ⟨bx, 6, none⟩) (IsRing.put (p := ⟨bx, 5, none⟩) (IsRing.put (p := ⟨bx, 4, none⟩) (hr4.mono (by omega)) hbwb _) hbwb _) hbwb _
  clear hcX4 hfX4 Y1 Y2 HR4 HX4 hW4 hr4 hz4 hlX4 hlR4 hg4 hlR3 hlX3 hlR3' hr3
  revert Y3 Y4 Y5 Y6
  generalize World.setCell _ _ _ = W6
  intro Y3 Y4 Y5 Y6
  go_loopw [12, 13] (fun a b wr => ∃ dx dy : Int, a = .int .i64 dx ∧ b = .int .i64 dy ∧ (-33556472 ≤ dx ∧ dx ≤ 33556472) ∧ (-33556472 ≤ dy ∧ dy ≤ 33556472) ∧
    Hid (Blk wr bx 87 #[.int .i64 kind, .int .i64 st, .int .i64 cat, .int .i64 tick, .int .i64 dx, .int .i64 dy, .int .i64 v4, .int .i64 0, .int .i64 0]) ∧
    Hid (Blk wr (w.heap.size + 1 + 1) 87 #[.int .i64 0, .int .i64 0, .int .i64 0, .int .i64 0, .int .i64 0, .int .i64 0, .int .i64 0, .int .i64 0, .int .i64 0]) ∧ Hid (Wr w g wr) ∧ IsRing wb wr g (B + 4)) (fun a b _ => (intOf a).natAbs + (intOf b).natAbs)
  case atStart => exact ⟨dx0, dy0, rfl, rfl, hdx1, hdy1, Y3, Y4, Y5, Y6⟩
  case round =>
    obtain ⟨dx, dy, rfl, rfl, ⟨hx1, hx2⟩, ⟨hy1, hy2⟩, HX, HR, HW, hrr⟩ := hrel
    clear Y3 Y4 Y5 Y6
    obtain ⟨wq, rfl⟩ : ∃ wq : World, wq = wr := ⟨_, rfl⟩
    have hcX := HX.out.cell
    have hfX := HX.out.frozen
    have hlX := HX.out.lt
    have hlR := HR.out.lt
    have hgr := hrr.lt
    by_cases hbig : 4096 < dx ∨ dx < -4096 ∨ 4096 < dy ∨ dy < -4096
    · obtain ⟨qx, hqx, hqx1, hqx2⟩ := half dx
      obtain ⟨qy, hqy, hqy1, hqy2⟩ := half dy
      have Z : Hid (Blk ((wq.setCell ⟨bx, 4, none⟩ (.int .i64 qx)).setCell ⟨bx, 5, none⟩ (.int .i64 qy)) bx 87 #[.int .i64 kind, .int .i64 st, .int .i64 cat, .int .i64 tick, .int .i64 qx, .int .i64 qy, .int .i64 v4, .int .i64 0, .int .i64 0] ∧
          Blk ((wq.setCell ⟨bx, 4, none⟩ (.int .i64 qx)).setCell ⟨bx, 5, none⟩ (.int .i64 qy)) (w.heap.size + 1 + 1) 87 #[.int .i64 0, .int .i64 0, .int .i64 0, .int .i64 0, .int .i64 0, .int .i64 0, .int .i64 0, .int .i64 0, .int .i64 0] ∧
          Wr w g ((wq.setCell ⟨bx, 4, none⟩ (.int .i64 qx)).setCell ⟨bx, 5, none⟩ (.int .i64 qy)) ∧ IsRing wb ((wq.setCell ⟨bx, 4, none⟩ (.int .i64 qx)).setCell ⟨bx, 5, none⟩ (.int .i64 qy)) g (B + 4)) := by
        have z1 : Blk (wq.setCell ⟨bx, 4, none⟩ (.int .i64 qx)) bx 87 #[.int .i64 kind, .int .i64 st, .int .i64 cat, .int .i64 tick, .int .i64 qx, .int .i64 dy, .int .i64 v4, .int .i64 0, .int .i64 0] := HX.out.set_ 4 _
        refine Lib.hid ⟨z1.set_ 5 _, (HR.out.far (p := ⟨bx, 4, none⟩) hbxr.symm _).far (p := ⟨bx, 5, none⟩) hbxr.symm _, Wr.put (p := ⟨bx, 5, none⟩) (Wr.put (p := ⟨bx, 4, none⟩) HW.out (by dsimp only; omega) _) (by dsimp only; omega) _, IsRing.put (p := ⟨bx, 5, none⟩) (IsRing.put (p := ⟨bx, 4, none⟩) hrr hbwb _) hbwb _⟩
      have M : Hid (((-33556472 ≤ qx ∧ qx ≤ 33556472) ∧ -33556472 ≤ qy ∧ qy ≤ 33556472) ∧ qx.natAbs + qy.natAbs < dx.natAbs + dy.natAbs) := by
        have e1 : dx = 0 ∨ qx.natAbs < dx.natAbs := by omega
        have e2 : dy = 0 ∨ qy.natAbs < dy.natAbs := by omega
        refine Lib.hid ⟨by omega, ?_⟩
        have e3 : qx.natAbs ≤ dx.natAbs := by omega
        have e4 : qy.natAbs ≤ dy.natAbs := by omega
        rcases hbig with h | h | h | h <;> omega
      have hq3 : (-33556472 ≤ qx ∧ qx ≤ 33556472) ∧ -33556472 ≤ qy ∧ qy ≤ 33556472 := M.out.1
      obtain ⟨⟨hq3, hq4⟩, hq5, hq6⟩ := hq3
      clear hqx1 hqx2 hqy1 hqy2
      have fin : Hid (∀ wr', wr' = ((wq.setCell ⟨bx, 4, none⟩ (.int .i64 qx)).setCell ⟨bx, 5, none⟩ (.int .i64 qy)) → True) := fun _ _ => trivial
      by_cases c1 : 4096 < dx
      · clear hbig
        go_wp2_with fail
        go_roundw
        case rel => exact ⟨qx, qy, rfl, rfl, ⟨hq3, hq4⟩, ⟨hq5, hq6⟩, Z.out.1, Z.out.2.1, Z.out.2.2.1, Z.out.2.2.2⟩
        case measure => exact M.out.2
      · have d0 : True := trivial
        by_cases c2 : dx < -4096
        · clear hbig
          go_wp2_with fail
          go_roundw
          case rel => exact ⟨qx, qy, rfl, rfl, ⟨hq3, hq4⟩, ⟨hq5, hq6⟩, Z.out.1, Z.out.2.1, Z.out.2.2.1, Z.out.2.2.2⟩
          case measure => exact M.out.2
        · have d1 : True := trivial
          by_cases c3 : 4096 < dy
          · clear hbig
            go_wp2_with fail
            go_roundw
            case rel => exact ⟨qx, qy, rfl, rfl, ⟨hq3, hq4⟩, ⟨hq5, hq6⟩, Z.out.1, Z.out.2.1, Z.out.2.2.1, Z.out.2.2.2⟩
            case measure => exact M.out.2
          · have d2 : True := trivial
            have c4 : dy < -4096 := by omega
            clear hbig
            go_wp2_with fail
            go_roundw
            case rel => exact ⟨qx, qy, rfl, rfl, ⟨hq3, hq4⟩, ⟨hq5, hq6⟩, Z.out.1, Z.out.2.1, Z.out.2.2.1, Z.out.2.2.2⟩
            case measure => exact M.out.2
    · have hb0 : (-4096 ≤ dx ∧ dx ≤ 4096) ∧ -4096 ≤ dy ∧ dy ≤ 4096 := by omega
      obtain ⟨⟨hb1, hb2x⟩, hb3x, hb4⟩ := hb0
      clear hbig
      by_cases hzero : dx = 0 ∧ dy = 0
      · obtain ⟨rfl, rfl⟩ := hzero
        go_wp2_with fail
        have Z1 : Hid (Blk (wq.setCell ⟨bx, 4, none⟩ (.int .i64 1)) bx 87 #[.int .i64 kind, .int .i64 st, .int .i64 cat, .int .i64 tick, .int .i64 1, .int .i64 0, .int .i64 v4, .int .i64 0, .int .i64 0]) := Lib.hid (HX.out.set_ 4 _)
        have Z2 : Hid (Blk (wq.setCell ⟨bx, 4, none⟩ (.int .i64 1)) (w.heap.size + 1 + 1) 87 #[.int .i64 0, .int .i64 0, .int .i64 0, .int .i64 0, .int .i64 0, .int .i64 0, .int .i64 0, .int .i64 0, .int .i64 0]) := Lib.hid (HR.out.far (p := ⟨bx, 4, none⟩) hbxr.symm _)
        have Z3 : Hid (Wr w g (wq.setCell ⟨bx, 4, none⟩ (.int .i64 1))) := Lib.hid (Wr.put (p := ⟨bx, 4, none⟩) HW.out (by dsimp only; omega) _)
        have Z4 : IsRing wb (wq.setCell ⟨bx, 4, none⟩ (.int .i64 1)) g (B + 4) := IsRing.put (p := ⟨bx, 4, none⟩) hrr hbwb _
        clear HX HR HW hrr hcX hfX hlX hlR hgr
        revert Z1 Z2 Z3 Z4
        generalize World.setCell _ _ _ = wz
        intro HX HR HW hrr
        have hcX := HX.out.cell
        have hfX := HX.out.frozen
        have hlX := HX.out.lt
        have hlR := HR.out.lt
        have hgr := hrr.lt
        refine (Next_c wb g _ _ _ hrr (by omega) (by omega) (by omega)).mono ?_; rintro e w5 ⟨v5, rfl, va5, vb5, hw5, hr5⟩; obtain ⟨hc5, hf5, hz5⟩ := Wr.cells hw5; (try simp only [szA] at hz5); have hg5 := hr5.lt
        have HX5 := Lib.hid (HX.out.wr hw5 hbg)
        have HR5 := Lib.hid (HR.out.wr hw5 hg2)
        have HW5 := Lib.hid (HW.out.trans hw5)
        have hcX5 := HX5.out.cell
        have hfX5 := HX5.out.frozen
        have hlX5 := HX5.out.lt
        have hlR5 := HR5.out.lt
        clear hc5 hf5 hw5 HX HR HW hrr hcX hfX hlX hlR hgr
        go_wp2_with fail
        have Y1 : Hid (Blk (w5.setCell ⟨bx, 7, none⟩ (.int .i64 v5)) bx 87 #[.int .i64 kind, .int .i64 st, .int .i64 cat, .int .i64 tick, .int .i64 1, .int .i64 0, .int .i64 v4, .int .i64 v5, .int .i64 0]) := Lib.hid (HX5.out.set_ 7 _)
        have Y2 : Hid (Blk (w5.setCell ⟨bx, 7, none⟩ (.int .i64 v5)) (w.heap.size + 1 + 1) 87 #[.int .i64 0, .int .i64 0, .int .i64 0, .int .i64 0, .int .i64 0, .int .i64 0, .int .i64 0, .int .i64 0, .int .i64 0]) := Lib.hid (HR5.out.far (p := ⟨bx, 7, none⟩) hbxr.symm _)
        have Y3 : Hid (Wr w g (w5.setCell ⟨bx, 7, none⟩ (.int .i64 v5))) := Lib.hid (Wr.put (p := ⟨bx, 7, none⟩) HW5.out (by dsimp only; omega) _)
        have Y4 : IsRing wb (w5.setCell ⟨bx, 7, none⟩ (.int .i64 v5)) g (B + 5) := IsRing.put (p := ⟨bx, 7, none⟩) (hr5.mono (by omega)) hbwb _
        clear HX5 HR5 HW5 hcX5 hfX5 hr5 hlX5 hlR5 hz5 hg5
        revert Y1 Y2 Y3 Y4
        generalize World.setCell _ _ _ = W7
        intro Y1 Y2 Y3 Y4
        have hcX7 := Y1.out.cell
        have hlX7 := Y1.out.lt
        have hgl7 := Y4.lt
        refine wp_region_chain0 true [([0, 1, 2], 3)] [4, 5, 6] [7] (Wr W7 g) (fun w' => Wr W7 g w' ∧ IsRing wb w' g (B + 5)) ((Wr.stable W7 g).and (Stable.ring _ _ _)) (fun w h => h.1) ⟨(Wr.refl _ _).drew, Y4.drew⟩ (by kernel_rfl) (by kernel_rfl) ?_
        simp only [XO, pick, List.drop_succ_cons, List.drop_zero]
        repeat' (first | (refine bl_off (by rfl) ?_; simp only [putX]) | (apply bl_op; rfl; (intro w1 h1; obtain ⟨hc, hf, hz⟩ := Wr.cells h1; go_simp; (try go_bits); (first | exact ⟨rfl, Ext.refl _⟩)); simp only [putX]) | (refine bl_split rfl rfl (fun hx => ?_) (fun hx => ?_) <;> simp only [hx]))
        refine bl_nil ?_
        try simp only [pick1, List.drop_succ_cons, List.drop_zero]
        refine xe_call (f := 62) (args := #[.pointer (some ⟨g, 0, none⟩), .int .i64 6000]) (fun v => ∃ x : Int, v = .int .i64 x ∧ 0 ≤ x ∧ x < 6000) (fun w => Wr W7 g w ∧ IsRing wb w g (B + 6)) rfl ((Wr.stable W7 g).and (Stable.ring _ _ _)) (fun w h => h.1) (fun w h => by go_simp) (fun w h => ?_) ?_
        · refine (Next_c wb g (B + 5) 6000 w h.2 (by omega) (by omega) (by omega)).mono ?_
          rintro e w' ⟨x, rfl, p1, p2, k1, k2⟩
          exact ⟨_, rfl, ⟨x, rfl, p1, p2⟩, h.1.trans k1, k2.mono (by omega)⟩
        rintro v ⟨v6, rfl, va6, vb6⟩
        simp only [putX]
        repeat' (first | (refine bl_off (by rfl) ?_; simp only [putX]) | (apply bl_op; rfl; (intro w1 h1; obtain ⟨hc, hf, hz⟩ := Wr.cells h1; go_simp; (try go_bits); (first | exact ⟨rfl, Ext.refl _⟩)); simp only [putX]) | (refine bl_split rfl rfl (fun hx => ?_) (fun hx => ?_) <;> simp only [hx]))
        refine bl_nil ?_
        try simp only [pick1, List.drop_succ_cons, List.drop_zero]
        refine tl_last rfl rfl (fun w8 ⟨h8, hr8⟩ => ?_)
        have HX8 := Lib.hid (Y1.out.wr h8 hbg)
        have HR8 := Lib.hid (Y2.out.wr h8 hg2)
        have HW8 := Lib.hid (Y3.out.trans h8)
        have hcX8 := HX8.out.cell
        have hfX8 := HX8.out.frozen
        have hlX8 := HX8.out.lt
        clear hcX7 hlX7 hgl7 Y1 Y2 Y3 Y4
        refine ⟨_, (by go_simp; rfl), ?_⟩
        obtain ⟨hi, hhi⟩ : ∃ h, h = v5 + (1 + v6) := ⟨_, rfl⟩
        try rw [← hhi]
        have hhi1 : v5 < hi ∧ 1 ≤ hi ∧ hi ≤ 7000 := by omega
        have Z1 : Hid (Blk (w8.setCell ⟨bx, 8, none⟩ (.int .i64 hi)) bx 87 #[.int .i64 kind, .int .i64 st, .int .i64 cat, .int .i64 tick, .int .i64 1, .int .i64 0, .int .i64 v4, .int .i64 v5, .int .i64 hi]) := Lib.hid (HX8.out.set_ 8 _)
        have Z2 : Hid (Blk (w8.setCell ⟨bx, 8, none⟩ (.int .i64 hi)) (w.heap.size + 1 + 1) 87 #[.int .i64 0, .int .i64 0, .int .i64 0, .int .i64 0, .int .i64 0, .int .i64 0, .int .i64 0, .int .i64 0, .int .i64 0]) := Lib.hid (HR8.out.far (p := ⟨bx, 8, none⟩) hbxr.symm _)
        have Z3 : Hid (Wr w g (w8.setCell ⟨bx, 8, none⟩ (.int .i64 hi))) := Lib.hid (Wr.put (p := ⟨bx, 8, none⟩) HW8.out (by dsimp only; omega) _)
        have Z4 : IsRing wb (w8.setCell ⟨bx, 8, none⟩ (.int .i64 hi)) g (B + 6) := IsRing.put (p := ⟨bx, 8, none⟩) (hr8.mono (by omega)) hbwb _
        clear hhi HX8 HR8 HW8 hcX8 hfX8 hlX8 h8 hr8
        revert Z1 Z2 Z3 Z4
        generalize World.setCell _ _ _ = W9
        intro Z1 Z2 Z3 Z4
        have hcX := Z1.out.cell
        have hfX := Z1.out.frozen
        have hlX := Z1.out.lt
        have hlR := Z2.out.lt
        have hgr := Z4.lt
        by_cases hk3 : kind = 3
        · subst hk3
          go_wp2_with fail
          have X0 : Blk (W9.setCell ⟨bx, 4, none⟩ (.int .i64 (0))) bx 87 #[.int .i64 3, .int .i64 st, .int .i64 cat, .int .i64 tick, .int .i64 (0), .int .i64 0, .int .i64 v4, .int .i64 v5, .int .i64 hi] := Z1.out.set_ 4 _
          have X1 : Hid (Blk ((W9.setCell ⟨bx, 4, none⟩ (.int .i64 (0))).setCell ⟨bx, 5, none⟩ (.int .i64 1)) bx 87 #[.int .i64 3, .int .i64 st, .int .i64 cat, .int .i64 tick, .int .i64 (0), .int .i64 1, .int .i64 v4, .int .i64 v5, .int .i64 hi]) := Lib.hid (X0.set_ 5 _)
          have X2 : Hid (Blk ((W9.setCell ⟨bx, 4, none⟩ (.int .i64 (0))).setCell ⟨bx, 5, none⟩ (.int .i64 1)) (w.heap.size + 1 + 1) 87 #[.int .i64 0, .int .i64 0, .int .i64 0, .int .i64 0, .int .i64 0, .int .i64 0, .int .i64 0, .int .i64 0, .int .i64 0]) := Lib.hid ((Z2.out.far (p := ⟨bx, 4, none⟩) hbxr.symm _).far (p := ⟨bx, 5, none⟩) hbxr.symm _)
          have X3 : Hid (Wr w g ((W9.setCell ⟨bx, 4, none⟩ (.int .i64 (0))).setCell ⟨bx, 5, none⟩ (.int .i64 1))) := Lib.hid (Wr.put (p := ⟨bx, 5, none⟩) (Wr.put (p := ⟨bx, 4, none⟩) Z3.out (by dsimp only; omega) _) (by dsimp only; omega) _)
          have X4 : IsRing wb ((W9.setCell ⟨bx, 4, none⟩ (.int .i64 (0))).setCell ⟨bx, 5, none⟩ (.int .i64 1)) g (B + 6) := IsRing.put (p := ⟨bx, 5, none⟩) (IsRing.put (p := ⟨bx, 4, none⟩) Z4 hbwb _) hbwb _
          clear X0 Z1 Z2 Z3 Z4 hcX hfX hlX hlR hgr
          revert X1 X2 X3 X4
          generalize World.setCell _ _ _ = W10
          intro X1 X2 X3 X4
          refine (Next_c wb g _ _ _ X4 (by omega) (by omega) (by omega)).mono ?_; rintro e w11 ⟨v11, rfl, va11, vb11, hw11, hr11⟩; obtain ⟨hc11, hf11, hz11⟩ := Wr.cells hw11; (try simp only [szA] at hz11); have hg11 := hr11.lt
          have HX := Lib.hid (X1.out.wr hw11 hbg)
          have HR := Lib.hid (X2.out.wr hw11 hg2)
          have HW := Lib.hid (X3.out.trans hw11)
          have hcX := HX.out.cell
          have hfX := HX.out.frozen
          have hlX := HX.out.lt
          have hcR := HR.out.cell
          have hfR := HR.out.frozen
          have hlR := HR.out.lt
          clear X1 X2 X3 X4 hc11 hf11 hw11
          by_cases h11 : v11 = 0
          · subst h11
            go_wp2_with fail
            refine (Next_c wb g _ _ _ hr11 (by omega) (by omega) (by omega)).mono ?_; rintro e w12 ⟨v12, rfl, va12, vb12, hw12, hr12⟩; obtain ⟨hc12, hf12, hz12⟩ := Wr.cells hw12; (try simp only [szA] at hz12); have hg12 := hr12.lt
            have HX2 := Lib.hid (HX.out.wr hw12 hbg)
            have HR2 := Lib.hid (HR.out.wr hw12 hg2)
            have HW2 := Lib.hid (HW.out.trans hw12)
            clear hcX hfX hlX hcR hfR hlR
            have hcX := HX2.out.cell
            have hfX := HX2.out.frozen
            have hlX := HX2.out.lt
            have hcR := HR2.out.cell
            have hfR := HR2.out.frozen
            have hlR := HR2.out.lt
            clear HX HR HW hc12 hf12 hw12
            (try dsimp only); repeat' (first | go_values | go_skip | go_guarded | go_step | go_upon | go_in | go_at_K)
            (try simp only [Exit.inBlock, Exit.then]); apply bodyPost_ret; (focus (simp only [results, Tryz.results63]; go_simp; try rfl)); rfl
            refine ⟨_, _, _, _, _, _, _, _, rfl, ⟨by dsimp only; omega, ht, hst.out, hct.out, ⟨by dsimp only; omega, by dsimp only; omega, by dsimp only; omega⟩, ⟨va4, vb4⟩, ⟨va5, vb5⟩, by dsimp only; omega, fun h => absurd rfl h⟩, ?_, ?_⟩
            · exact Wr.set9 _ _ _ _ _ _ _ _ _ (Wr.put (p := ⟨bx, 8, none⟩) HW2.out (by dsimp only; omega) _) (by omega)
            · exact IsRing.set9 _ _ _ _ _ _ _ _ _ (IsRing.put (p := ⟨bx, 8, none⟩) (hr12.mono (by omega)) hbwb _) (by omega) hg2
          · (try dsimp only); repeat' (first | go_values | go_skip | go_guarded | go_step | go_upon | go_in | go_at_K)
            (try simp only [Exit.inBlock, Exit.then]); apply bodyPost_ret; (focus (simp only [results, Tryz.results63]; go_simp; try rfl)); rfl
            refine ⟨_, _, _, _, _, _, _, _, rfl, ⟨by dsimp only; omega, ht, hst.out, hct.out, ⟨by dsimp only; omega, by dsimp only; omega, by dsimp only; omega⟩, ⟨va4, vb4⟩, ⟨va5, vb5⟩, by dsimp only; omega, fun h => absurd rfl h⟩, ?_, ?_⟩
            · exact Wr.set9 _ _ _ _ _ _ _ _ _ HW.out (by omega)
            · exact IsRing.set9 _ _ _ _ _ _ _ _ _ (hr11.mono (by omega)) (by omega) hg2
        · have hcR := Z2.out.cell
          have hfR := Z2.out.frozen
          (try dsimp only); repeat' (first | go_values | go_skip | go_guarded | go_step | go_upon | go_in | go_at_K)
          (try simp only [Exit.inBlock, Exit.then]); apply bodyPost_ret; (focus (simp only [results, Tryz.results63]; go_simp; try rfl)); rfl
          refine ⟨_, _, _, _, _, _, _, _, rfl, ⟨hkind1, ht, hst.out, hct.out, ⟨by dsimp only; omega, by dsimp only; omega, by dsimp only; omega⟩, ⟨va4, vb4⟩, ⟨va5, vb5⟩, by dsimp only; omega, fun _ => hhi1.1⟩, ?_, ?_⟩
          · exact Wr.set9 _ _ _ _ _ _ _ _ _ Z3.out (by omega)
          · exact IsRing.set9 _ _ _ _ _ _ _ _ _ (Z4.mono (by omega)) (by omega) hg2
      · by_cases hx0 : dx = 0
        · have hy0 : ¬ dy = 0 := fun e => hzero ⟨hx0, e⟩
          subst hx0
          go_wp2_with fail
          refine (Next_c wb g _ _ _ hrr (by omega) (by omega) (by omega)).mono ?_; rintro e w5 ⟨v5, rfl, va5, vb5, hw5, hr5⟩; obtain ⟨hc5, hf5, hz5⟩ := Wr.cells hw5; (try simp only [szA] at hz5); have hg5 := hr5.lt
          have HX5 := Lib.hid (HX.out.wr hw5 hbg)
          have HR5 := Lib.hid (HR.out.wr hw5 hg2)
          have HW5 := Lib.hid (HW.out.trans hw5)
          have hcX5 := HX5.out.cell
          have hfX5 := HX5.out.frozen
          have hlX5 := HX5.out.lt
          have hlR5 := HR5.out.lt
          clear hc5 hf5 hw5 HX HR HW hrr hcX hfX hlX hlR hgr
          go_wp2_with fail
          have Y1 : Hid (Blk (w5.setCell ⟨bx, 7, none⟩ (.int .i64 v5)) bx 87 #[.int .i64 kind, .int .i64 st, .int .i64 cat, .int .i64 tick, .int .i64 0, .int .i64 dy, .int .i64 v4, .int .i64 v5, .int .i64 0]) := Lib.hid (HX5.out.set_ 7 _)
          have Y2 : Hid (Blk (w5.setCell ⟨bx, 7, none⟩ (.int .i64 v5)) (w.heap.size + 1 + 1) 87 #[.int .i64 0, .int .i64 0, .int .i64 0, .int .i64 0, .int .i64 0, .int .i64 0, .int .i64 0, .int .i64 0, .int .i64 0]) := Lib.hid (HR5.out.far (p := ⟨bx, 7, none⟩) hbxr.symm _)
          have Y3 : Hid (Wr w g (w5.setCell ⟨bx, 7, none⟩ (.int .i64 v5))) := Lib.hid (Wr.put (p := ⟨bx, 7, none⟩) HW5.out (by dsimp only; omega) _)
          have Y4 : IsRing wb (w5.setCell ⟨bx, 7, none⟩ (.int .i64 v5)) g (B + 5) := IsRing.put (p := ⟨bx, 7, none⟩) (hr5.mono (by omega)) hbwb _
          clear HX5 HR5 HW5 hcX5 hfX5 hr5 hlX5 hlR5 hz5 hg5
          revert Y1 Y2 Y3 Y4
          generalize World.setCell _ _ _ = W7
          intro Y1 Y2 Y3 Y4
          have hcX7 := Y1.out.cell
          have hlX7 := Y1.out.lt
          have hgl7 := Y4.lt
          refine wp_region_chain0 true [([0, 1, 2], 3)] [4, 5, 6] [7] (Wr W7 g) (fun w' => Wr W7 g w' ∧ IsRing wb w' g (B + 5)) ((Wr.stable W7 g).and (Stable.ring _ _ _)) (fun w h => h.1) ⟨(Wr.refl _ _).drew, Y4.drew⟩ (by kernel_rfl) (by kernel_rfl) ?_
          simp only [XO, pick, List.drop_succ_cons, List.drop_zero]
          repeat' (first | (refine bl_off (by rfl) ?_; simp only [putX]) | (apply bl_op; rfl; (intro w1 h1; obtain ⟨hc, hf, hz⟩ := Wr.cells h1; go_simp; (try go_bits); (first | exact ⟨rfl, Ext.refl _⟩)); simp only [putX]) | (refine bl_split rfl rfl (fun hx => ?_) (fun hx => ?_) <;> simp only [hx]))
          refine bl_nil ?_
          try simp only [pick1, List.drop_succ_cons, List.drop_zero]
          refine xe_call (f := 62) (args := #[.pointer (some ⟨g, 0, none⟩), .int .i64 6000]) (fun v => ∃ x : Int, v = .int .i64 x ∧ 0 ≤ x ∧ x < 6000) (fun w => Wr W7 g w ∧ IsRing wb w g (B + 6)) rfl ((Wr.stable W7 g).and (Stable.ring _ _ _)) (fun w h => h.1) (fun w h => by go_simp) (fun w h => ?_) ?_
          · refine (Next_c wb g (B + 5) 6000 w h.2 (by omega) (by omega) (by omega)).mono ?_
            rintro e w' ⟨x, rfl, p1, p2, k1, k2⟩
            exact ⟨_, rfl, ⟨x, rfl, p1, p2⟩, h.1.trans k1, k2.mono (by omega)⟩
          rintro v ⟨v6, rfl, va6, vb6⟩
          simp only [putX]
          repeat' (first | (refine bl_off (by rfl) ?_; simp only [putX]) | (apply bl_op; rfl; (intro w1 h1; obtain ⟨hc, hf, hz⟩ := Wr.cells h1; go_simp; (try go_bits); (first | exact ⟨rfl, Ext.refl _⟩)); simp only [putX]) | (refine bl_split rfl rfl (fun hx => ?_) (fun hx => ?_) <;> simp only [hx]))
          refine bl_nil ?_
          try simp only [pick1, List.drop_succ_cons, List.drop_zero]
          refine tl_last rfl rfl (fun w8 ⟨h8, hr8⟩ => ?_)
          have HX8 := Lib.hid (Y1.out.wr h8 hbg)
          have HR8 := Lib.hid (Y2.out.wr h8 hg2)
          have HW8 := Lib.hid (Y3.out.trans h8)
          have hcX8 := HX8.out.cell
          have hfX8 := HX8.out.frozen
          have hlX8 := HX8.out.lt
          clear hcX7 hlX7 hgl7 Y1 Y2 Y3 Y4
          refine ⟨_, (by go_simp; rfl), ?_⟩
          obtain ⟨hi, hhi⟩ : ∃ h, h = v5 + (1 + v6) := ⟨_, rfl⟩
          try rw [← hhi]
          have hhi1 : v5 < hi ∧ 1 ≤ hi ∧ hi ≤ 7000 := by omega
          have Z1 : Hid (Blk (w8.setCell ⟨bx, 8, none⟩ (.int .i64 hi)) bx 87 #[.int .i64 kind, .int .i64 st, .int .i64 cat, .int .i64 tick, .int .i64 0, .int .i64 dy, .int .i64 v4, .int .i64 v5, .int .i64 hi]) := Lib.hid (HX8.out.set_ 8 _)
          have Z2 : Hid (Blk (w8.setCell ⟨bx, 8, none⟩ (.int .i64 hi)) (w.heap.size + 1 + 1) 87 #[.int .i64 0, .int .i64 0, .int .i64 0, .int .i64 0, .int .i64 0, .int .i64 0, .int .i64 0, .int .i64 0, .int .i64 0]) := Lib.hid (HR8.out.far (p := ⟨bx, 8, none⟩) hbxr.symm _)
          have Z3 : Hid (Wr w g (w8.setCell ⟨bx, 8, none⟩ (.int .i64 hi))) := Lib.hid (Wr.put (p := ⟨bx, 8, none⟩) HW8.out (by dsimp only; omega) _)
          have Z4 : IsRing wb (w8.setCell ⟨bx, 8, none⟩ (.int .i64 hi)) g (B + 6) := IsRing.put (p := ⟨bx, 8, none⟩) (hr8.mono (by omega)) hbwb _
          clear hhi HX8 HR8 HW8 hcX8 hfX8 hlX8 h8 hr8
          revert Z1 Z2 Z3 Z4
          generalize World.setCell _ _ _ = W9
          intro Z1 Z2 Z3 Z4
          have hcX := Z1.out.cell
          have hfX := Z1.out.frozen
          have hlX := Z1.out.lt
          have hlR := Z2.out.lt
          have hgr := Z4.lt
          by_cases hk3 : kind = 3
          · subst hk3
            go_wp2_with fail
            have X0 : Blk (W9.setCell ⟨bx, 4, none⟩ (.int .i64 (-dy))) bx 87 #[.int .i64 3, .int .i64 st, .int .i64 cat, .int .i64 tick, .int .i64 (-dy), .int .i64 dy, .int .i64 v4, .int .i64 v5, .int .i64 hi] := Z1.out.set_ 4 _
            have X1 : Hid (Blk ((W9.setCell ⟨bx, 4, none⟩ (.int .i64 (-dy))).setCell ⟨bx, 5, none⟩ (.int .i64 0)) bx 87 #[.int .i64 3, .int .i64 st, .int .i64 cat, .int .i64 tick, .int .i64 (-dy), .int .i64 0, .int .i64 v4, .int .i64 v5, .int .i64 hi]) := Lib.hid (X0.set_ 5 _)
            have X2 : Hid (Blk ((W9.setCell ⟨bx, 4, none⟩ (.int .i64 (-dy))).setCell ⟨bx, 5, none⟩ (.int .i64 0)) (w.heap.size + 1 + 1) 87 #[.int .i64 0, .int .i64 0, .int .i64 0, .int .i64 0, .int .i64 0, .int .i64 0, .int .i64 0, .int .i64 0, .int .i64 0]) := Lib.hid ((Z2.out.far (p := ⟨bx, 4, none⟩) hbxr.symm _).far (p := ⟨bx, 5, none⟩) hbxr.symm _)
            have X3 : Hid (Wr w g ((W9.setCell ⟨bx, 4, none⟩ (.int .i64 (-dy))).setCell ⟨bx, 5, none⟩ (.int .i64 0))) := Lib.hid (Wr.put (p := ⟨bx, 5, none⟩) (Wr.put (p := ⟨bx, 4, none⟩) Z3.out (by dsimp only; omega) _) (by dsimp only; omega) _)
            have X4 : IsRing wb ((W9.setCell ⟨bx, 4, none⟩ (.int .i64 (-dy))).setCell ⟨bx, 5, none⟩ (.int .i64 0)) g (B + 6) := IsRing.put (p := ⟨bx, 5, none⟩) (IsRing.put (p := ⟨bx, 4, none⟩) Z4 hbwb _) hbwb _
            clear X0 Z1 Z2 Z3 Z4 hcX hfX hlX hlR hgr
            revert X1 X2 X3 X4
            generalize World.setCell _ _ _ = W10
            intro X1 X2 X3 X4
            refine (Next_c wb g _ _ _ X4 (by omega) (by omega) (by omega)).mono ?_; rintro e w11 ⟨v11, rfl, va11, vb11, hw11, hr11⟩; obtain ⟨hc11, hf11, hz11⟩ := Wr.cells hw11; (try simp only [szA] at hz11); have hg11 := hr11.lt
            have HX := Lib.hid (X1.out.wr hw11 hbg)
            have HR := Lib.hid (X2.out.wr hw11 hg2)
            have HW := Lib.hid (X3.out.trans hw11)
            have hcX := HX.out.cell
            have hfX := HX.out.frozen
            have hlX := HX.out.lt
            have hcR := HR.out.cell
            have hfR := HR.out.frozen
            have hlR := HR.out.lt
            clear X1 X2 X3 X4 hc11 hf11 hw11
            by_cases h11 : v11 = 0
            · subst h11
              go_wp2_with fail
              refine (Next_c wb g _ _ _ hr11 (by omega) (by omega) (by omega)).mono ?_; rintro e w12 ⟨v12, rfl, va12, vb12, hw12, hr12⟩; obtain ⟨hc12, hf12, hz12⟩ := Wr.cells hw12; (try simp only [szA] at hz12); have hg12 := hr12.lt
              have HX2 := Lib.hid (HX.out.wr hw12 hbg)
              have HR2 := Lib.hid (HR.out.wr hw12 hg2)
              have HW2 := Lib.hid (HW.out.trans hw12)
              clear hcX hfX hlX hcR hfR hlR
              have hcX := HX2.out.cell
              have hfX := HX2.out.frozen
              have hlX := HX2.out.lt
              have hcR := HR2.out.cell
              have hfR := HR2.out.frozen
              have hlR := HR2.out.lt
              clear HX HR HW hc12 hf12 hw12
              (try dsimp only); repeat' (first | go_values | go_skip | go_guarded | go_step | go_upon | go_in | go_at_K)
              (try simp only [Exit.inBlock, Exit.then]); apply bodyPost_ret; (focus (simp only [results, Tryz.results63]; go_simp; try rfl)); rfl
              refine ⟨_, _, _, _, _, _, _, _, rfl, ⟨by dsimp only; omega, ht, hst.out, hct.out, ⟨by dsimp only; omega, by dsimp only; omega, fun h => hy0 (Int.neg_eq_zero.1 h.1)⟩, ⟨va4, vb4⟩, ⟨va5, vb5⟩, by dsimp only; omega, fun h => absurd rfl h⟩, ?_, ?_⟩
              · exact Wr.set9 _ _ _ _ _ _ _ _ _ (Wr.put (p := ⟨bx, 8, none⟩) HW2.out (by dsimp only; omega) _) (by omega)
              · exact IsRing.set9 _ _ _ _ _ _ _ _ _ (IsRing.put (p := ⟨bx, 8, none⟩) (hr12.mono (by omega)) hbwb _) (by omega) hg2
            · (try dsimp only); repeat' (first | go_values | go_skip | go_guarded | go_step | go_upon | go_in | go_at_K)
              (try simp only [Exit.inBlock, Exit.then]); apply bodyPost_ret; (focus (simp only [results, Tryz.results63]; go_simp; try rfl)); rfl
              refine ⟨_, _, _, _, _, _, _, _, rfl, ⟨by dsimp only; omega, ht, hst.out, hct.out, ⟨by dsimp only; omega, by dsimp only; omega, fun h => hy0 (Int.neg_eq_zero.1 h.1)⟩, ⟨va4, vb4⟩, ⟨va5, vb5⟩, by dsimp only; omega, fun h => absurd rfl h⟩, ?_, ?_⟩
              · exact Wr.set9 _ _ _ _ _ _ _ _ _ HW.out (by omega)
              · exact IsRing.set9 _ _ _ _ _ _ _ _ _ (hr11.mono (by omega)) (by omega) hg2
          · have hcR := Z2.out.cell
            have hfR := Z2.out.frozen
            (try dsimp only); repeat' (first | go_values | go_skip | go_guarded | go_step | go_upon | go_in | go_at_K)
            (try simp only [Exit.inBlock, Exit.then]); apply bodyPost_ret; (focus (simp only [results, Tryz.results63]; go_simp; try rfl)); rfl
            refine ⟨_, _, _, _, _, _, _, _, rfl, ⟨hkind1, ht, hst.out, hct.out, ⟨by dsimp only; omega, by dsimp only; omega, fun h => hy0 h.2⟩, ⟨va4, vb4⟩, ⟨va5, vb5⟩, by dsimp only; omega, fun _ => hhi1.1⟩, ?_, ?_⟩
            · exact Wr.set9 _ _ _ _ _ _ _ _ _ Z3.out (by omega)
            · exact IsRing.set9 _ _ _ _ _ _ _ _ _ (Z4.mono (by omega)) (by omega) hg2
        · go_wp2_with fail
          refine (Next_c wb g _ _ _ hrr (by omega) (by omega) (by omega)).mono ?_; rintro e w5 ⟨v5, rfl, va5, vb5, hw5, hr5⟩; obtain ⟨hc5, hf5, hz5⟩ := Wr.cells hw5; (try simp only [szA] at hz5); have hg5 := hr5.lt
          have HX5 := Lib.hid (HX.out.wr hw5 hbg)
          have HR5 := Lib.hid (HR.out.wr hw5 hg2)
          have HW5 := Lib.hid (HW.out.trans hw5)
          have hcX5 := HX5.out.cell
          have hfX5 := HX5.out.frozen
          have hlX5 := HX5.out.lt
          have hlR5 := HR5.out.lt
          clear hc5 hf5 hw5 HX HR HW hrr hcX hfX hlX hlR hgr
          go_wp2_with fail
          have Y1 : Hid (Blk (w5.setCell ⟨bx, 7, none⟩ (.int .i64 v5)) bx 87 #[.int .i64 kind, .int .i64 st, .int .i64 cat, .int .i64 tick, .int .i64 dx, .int .i64 dy, .int .i64 v4, .int .i64 v5, .int .i64 0]) := Lib.hid (HX5.out.set_ 7 _)
          have Y2 : Hid (Blk (w5.setCell ⟨bx, 7, none⟩ (.int .i64 v5)) (w.heap.size + 1 + 1) 87 #[.int .i64 0, .int .i64 0, .int .i64 0, .int .i64 0, .int .i64 0, .int .i64 0, .int .i64 0, .int .i64 0, .int .i64 0]) := Lib.hid (HR5.out.far (p := ⟨bx, 7, none⟩) hbxr.symm _)
          have Y3 : Hid (Wr w g (w5.setCell ⟨bx, 7, none⟩ (.int .i64 v5))) := Lib.hid (Wr.put (p := ⟨bx, 7, none⟩) HW5.out (by dsimp only; omega) _)
          have Y4 : IsRing wb (w5.setCell ⟨bx, 7, none⟩ (.int .i64 v5)) g (B + 5) := IsRing.put (p := ⟨bx, 7, none⟩) (hr5.mono (by omega)) hbwb _
          clear HX5 HR5 HW5 hcX5 hfX5 hr5 hlX5 hlR5 hz5 hg5
          revert Y1 Y2 Y3 Y4
          generalize World.setCell _ _ _ = W7
          intro Y1 Y2 Y3 Y4
          have hcX7 := Y1.out.cell
          have hlX7 := Y1.out.lt
          have hgl7 := Y4.lt
          refine wp_region_chain0 true [([0, 1, 2], 3)] [4, 5, 6] [7] (Wr W7 g) (fun w' => Wr W7 g w' ∧ IsRing wb w' g (B + 5)) ((Wr.stable W7 g).and (Stable.ring _ _ _)) (fun w h => h.1) ⟨(Wr.refl _ _).drew, Y4.drew⟩ (by kernel_rfl) (by kernel_rfl) ?_
          simp only [XO, pick, List.drop_succ_cons, List.drop_zero]
          repeat' (first | (refine bl_off (by rfl) ?_; simp only [putX]) | (apply bl_op; rfl; (intro w1 h1; obtain ⟨hc, hf, hz⟩ := Wr.cells h1; go_simp; (try go_bits); (first | exact ⟨rfl, Ext.refl _⟩)); simp only [putX]) | (refine bl_split rfl rfl (fun hx => ?_) (fun hx => ?_) <;> simp only [hx]))
          refine bl_nil ?_
          try simp only [pick1, List.drop_succ_cons, List.drop_zero]
          refine xe_call (f := 62) (args := #[.pointer (some ⟨g, 0, none⟩), .int .i64 6000]) (fun v => ∃ x : Int, v = .int .i64 x ∧ 0 ≤ x ∧ x < 6000) (fun w => Wr W7 g w ∧ IsRing wb w g (B + 6)) rfl ((Wr.stable W7 g).and (Stable.ring _ _ _)) (fun w h => h.1) (fun w h => by go_simp) (fun w h => ?_) ?_
          · refine (Next_c wb g (B + 5) 6000 w h.2 (by omega) (by omega) (by omega)).mono ?_
            rintro e w' ⟨x, rfl, p1, p2, k1, k2⟩
            exact ⟨_, rfl, ⟨x, rfl, p1, p2⟩, h.1.trans k1, k2.mono (by omega)⟩
          rintro v ⟨v6, rfl, va6, vb6⟩
          simp only [putX]
          repeat' (first | (refine bl_off (by rfl) ?_; simp only [putX]) | (apply bl_op; rfl; (intro w1 h1; obtain ⟨hc, hf, hz⟩ := Wr.cells h1; go_simp; (try go_bits); (first | exact ⟨rfl, Ext.refl _⟩)); simp only [putX]) | (refine bl_split rfl rfl (fun hx => ?_) (fun hx => ?_) <;> simp only [hx]))
          refine bl_nil ?_
          try simp only [pick1, List.drop_succ_cons, List.drop_zero]
          refine tl_last rfl rfl (fun w8 ⟨h8, hr8⟩ => ?_)
          have HX8 := Lib.hid (Y1.out.wr h8 hbg)
          have HR8 := Lib.hid (Y2.out.wr h8 hg2)
          have HW8 := Lib.hid (Y3.out.trans h8)
          have hcX8 := HX8.out.cell
          have hfX8 := HX8.out.frozen
          have hlX8 := HX8.out.lt
          clear hcX7 hlX7 hgl7 Y1 Y2 Y3 Y4
          refine ⟨_, (by go_simp; rfl), ?_⟩
          obtain ⟨hi, hhi⟩ : ∃ h, h = v5 + (1 + v6) := ⟨_, rfl⟩
          try rw [← hhi]
          have hhi1 : v5 < hi ∧ 1 ≤ hi ∧ hi ≤ 7000 := by omega
          have Z1 : Hid (Blk (w8.setCell ⟨bx, 8, none⟩ (.int .i64 hi)) bx 87 #[.int .i64 kind, .int .i64 st, .int .i64 cat, .int .i64 tick, .int .i64 dx, .int .i64 dy, .int .i64 v4, .int .i64 v5, .int .i64 hi]) := Lib.hid (HX8.out.set_ 8 _)
          have Z2 : Hid (Blk (w8.setCell ⟨bx, 8, none⟩ (.int .i64 hi)) (w.heap.size + 1 + 1) 87 #[.int .i64 0, .int .i64 0, .int .i64 0, .int .i64 0, .int .i64 0, .int .i64 0, .int .i64 0, .int .i64 0, .int .i64 0]) := Lib.hid (HR8.out.far (p := ⟨bx, 8, none⟩) hbxr.symm _)
          have Z3 : Hid (Wr w g (w8.setCell ⟨bx, 8, none⟩ (.int .i64 hi))) := Lib.hid (Wr.put (p := ⟨bx, 8, none⟩) HW8.out (by dsimp only; omega) _)
          have Z4 : IsRing wb (w8.setCell ⟨bx, 8, none⟩ (.int .i64 hi)) g (B + 6) := IsRing.put (p := ⟨bx, 8, none⟩) (hr8.mono (by omega)) hbwb _
          clear hhi HX8 HR8 HW8 hcX8 hfX8 hlX8 h8 hr8
          revert Z1 Z2 Z3 Z4
          generalize World.setCell _ _ _ = W9
          intro Z1 Z2 Z3 Z4
          have hcX := Z1.out.cell
          have hfX := Z1.out.frozen
          have hlX := Z1.out.lt
          have hlR := Z2.out.lt
          have hgr := Z4.lt
          by_cases hk3 : kind = 3
          · subst hk3
            go_wp2_with fail
            have X0 : Blk (W9.setCell ⟨bx, 4, none⟩ (.int .i64 (-dy))) bx 87 #[.int .i64 3, .int .i64 st, .int .i64 cat, .int .i64 tick, .int .i64 (-dy), .int .i64 dy, .int .i64 v4, .int .i64 v5, .int .i64 hi] := Z1.out.set_ 4 _
            have X1 : Hid (Blk ((W9.setCell ⟨bx, 4, none⟩ (.int .i64 (-dy))).setCell ⟨bx, 5, none⟩ (.int .i64 dx)) bx 87 #[.int .i64 3, .int .i64 st, .int .i64 cat, .int .i64 tick, .int .i64 (-dy), .int .i64 dx, .int .i64 v4, .int .i64 v5, .int .i64 hi]) := Lib.hid (X0.set_ 5 _)
            have X2 : Hid (Blk ((W9.setCell ⟨bx, 4, none⟩ (.int .i64 (-dy))).setCell ⟨bx, 5, none⟩ (.int .i64 dx)) (w.heap.size + 1 + 1) 87 #[.int .i64 0, .int .i64 0, .int .i64 0, .int .i64 0, .int .i64 0, .int .i64 0, .int .i64 0, .int .i64 0, .int .i64 0]) := Lib.hid ((Z2.out.far (p := ⟨bx, 4, none⟩) hbxr.symm _).far (p := ⟨bx, 5, none⟩) hbxr.symm _)
            have X3 : Hid (Wr w g ((W9.setCell ⟨bx, 4, none⟩ (.int .i64 (-dy))).setCell ⟨bx, 5, none⟩ (.int .i64 dx))) := Lib.hid (Wr.put (p := ⟨bx, 5, none⟩) (Wr.put (p := ⟨bx, 4, none⟩) Z3.out (by dsimp only; omega) _) (by dsimp only; omega) _)
            have X4 : IsRing wb ((W9.setCell ⟨bx, 4, none⟩ (.int .i64 (-dy))).setCell ⟨bx, 5, none⟩ (.int .i64 dx)) g (B + 6) := IsRing.put (p := ⟨bx, 5, none⟩) (IsRing.put (p := ⟨bx, 4, none⟩) Z4 hbwb _) hbwb _
            clear X0 Z1 Z2 Z3 Z4 hcX hfX hlX hlR hgr
            revert X1 X2 X3 X4
            generalize World.setCell _ _ _ = W10
            intro X1 X2 X3 X4
            refine (Next_c wb g _ _ _ X4 (by omega) (by omega) (by omega)).mono ?_; rintro e w11 ⟨v11, rfl, va11, vb11, hw11, hr11⟩; obtain ⟨hc11, hf11, hz11⟩ := Wr.cells hw11; (try simp only [szA] at hz11); have hg11 := hr11.lt
            have HX := Lib.hid (X1.out.wr hw11 hbg)
            have HR := Lib.hid (X2.out.wr hw11 hg2)
            have HW := Lib.hid (X3.out.trans hw11)
            have hcX := HX.out.cell
            have hfX := HX.out.frozen
            have hlX := HX.out.lt
            have hcR := HR.out.cell
            have hfR := HR.out.frozen
            have hlR := HR.out.lt
            clear X1 X2 X3 X4 hc11 hf11 hw11
            by_cases h11 : v11 = 0
            · subst h11
              go_wp2_with fail
              refine (Next_c wb g _ _ _ hr11 (by omega) (by omega) (by omega)).mono ?_; rintro e w12 ⟨v12, rfl, va12, vb12, hw12, hr12⟩; obtain ⟨hc12, hf12, hz12⟩ := Wr.cells hw12; (try simp only [szA] at hz12); have hg12 := hr12.lt
              have HX2 := Lib.hid (HX.out.wr hw12 hbg)
              have HR2 := Lib.hid (HR.out.wr hw12 hg2)
              have HW2 := Lib.hid (HW.out.trans hw12)
              clear hcX hfX hlX hcR hfR hlR
              have hcX := HX2.out.cell
              have hfX := HX2.out.frozen
              have hlX := HX2.out.lt
              have hcR := HR2.out.cell
              have hfR := HR2.out.frozen
              have hlR := HR2.out.lt
              clear HX HR HW hc12 hf12 hw12
              (try dsimp only); repeat' (first | go_values | go_skip | go_guarded | go_step | go_upon | go_in | go_at_K)
              (try simp only [Exit.inBlock, Exit.then]); apply bodyPost_ret; (focus (simp only [results, Tryz.results63]; go_simp; try rfl)); rfl
              refine ⟨_, _, _, _, _, _, _, _, rfl, ⟨by dsimp only; omega, ht, hst.out, hct.out, ⟨by dsimp only; omega, by dsimp only; omega, fun h => hzero ⟨by have := h.2; dsimp only at this; omega, by have := h.1; dsimp only at this; omega⟩⟩, ⟨va4, vb4⟩, ⟨va5, vb5⟩, by dsimp only; omega, fun h => absurd rfl h⟩, ?_, ?_⟩
              · exact Wr.set9 _ _ _ _ _ _ _ _ _ (Wr.put (p := ⟨bx, 8, none⟩) HW2.out (by dsimp only; omega) _) (by omega)
              · exact IsRing.set9 _ _ _ _ _ _ _ _ _ (IsRing.put (p := ⟨bx, 8, none⟩) (hr12.mono (by omega)) hbwb _) (by omega) hg2
            · (try dsimp only); repeat' (first | go_values | go_skip | go_guarded | go_step | go_upon | go_in | go_at_K)
              (try simp only [Exit.inBlock, Exit.then]); apply bodyPost_ret; (focus (simp only [results, Tryz.results63]; go_simp; try rfl)); rfl
              refine ⟨_, _, _, _, _, _, _, _, rfl, ⟨by dsimp only; omega, ht, hst.out, hct.out, ⟨by dsimp only; omega, by dsimp only; omega, fun h => hzero ⟨by have := h.2; dsimp only at this; omega, by have := h.1; dsimp only at this; omega⟩⟩, ⟨va4, vb4⟩, ⟨va5, vb5⟩, by dsimp only; omega, fun h => absurd rfl h⟩, ?_, ?_⟩
              · exact Wr.set9 _ _ _ _ _ _ _ _ _ HW.out (by omega)
              · exact IsRing.set9 _ _ _ _ _ _ _ _ _ (hr11.mono (by omega)) (by omega) hg2
          · have hcR := Z2.out.cell
            have hfR := Z2.out.frozen
            (try dsimp only); repeat' (first | go_values | go_skip | go_guarded | go_step | go_upon | go_in | go_at_K)
            (try simp only [Exit.inBlock, Exit.then]); apply bodyPost_ret; (focus (simp only [results, Tryz.results63]; go_simp; try rfl)); rfl
            refine ⟨_, _, _, _, _, _, _, _, rfl, ⟨hkind1, ht, hst.out, hct.out, ⟨by dsimp only; omega, by dsimp only; omega, fun h => hzero h⟩, ⟨va4, vb4⟩, ⟨va5, vb5⟩, by dsimp only; omega, fun _ => hhi1.1⟩, ?_, ?_⟩
            · exact Wr.set9 _ _ _ _ _ _ _ _ _ Z3.out (by omega)
            · exact IsRing.set9 _ _ _ _ _ _ _ _ _ (Z4.mono (by omega)) (by omega) hg2
end Go.Proofs.YtfniicgoeljmdaaGreat
