/- Each tracklet is in just one group. No condition. -/
import Derived.Test.YtmgjjgmadiabfaaManyLaw
import Derived.Test.YtmgjjgmadiabfaaPartsLaw
import Derived.Test.YtmgjjgmadiabfaaJoinLaw
import Derived.Test.YtmgjjgmadiabfaaGroupsAll
import Derived.Test.YtmgjjgmadiabfaaAwake
namespace Go.Proofs.Ytmgjjgmadiabfaa
open Go.RowKit

/-- The cells of numbers. -/
def intsC (l : List Int) : Array Value := (l.map (Value.int .i64)).toArray
theorem intsC_get (l : List Int) (k : Nat) : (intsC l)[k]? = l[k]?.map (Value.int .i64) := by
  unfold intsC
  simp
theorem intsC_set (l : List Int) (k : Nat) (v : Int) : (intsC l).setIfInBounds k (.int .i64 v) = intsC (l.set k v) := by
  unfold intsC
  simp [List.map_set]
theorem own_full_int {w : World} {base : Nat} {e : TypeId} {g n : Nat} {l : List Int} (hl : l.length = n) (h : w.ownsRow base e 1 (.slice (some ⟨g, 0, none⟩) n n) n (l.map (Value.int .i64))) : Blk w g e (intsC l) := by
  rcases h.2 with ⟨hx, _⟩ | ⟨g', cap, cur, hx, _, hg, _, _, hcs, htk⟩
  · cases hx
  · injection hx with h1 h2 h3
    injection h1 with h1; injection h1 with h1
    subst h1
    subst h3
    have : cur = intsC l := by
      unfold intsC
      apply Array.ext'
      rw [← htk, List.take_of_length_le (by simp; omega)]
    rw [← this]
    exact hg
theorem made_ints (n : Nat) : (madeCells #[Value.int .i64 0] n).toList = (List.replicate n (0 : Int)).map (Value.int .i64) := by
  unfold madeCells
  apply List.ext_getElem
  · simp
  · intro i h1 h2
    simp [Nat.mod_one]
theorem missM_ok {s : Sky} {l : List Sight} {g : St} (h : trkErr s l = 0) (hg : gOK g = true) : missM s l g 0 = missFrom s g 0 l 0 := by
  rw [missM, if_neg]
  have : within 0 0 1073741824 = true := (within_iff _ _ _).2 (by omega)
  simp [h, hg, this]
theorem miss_good (A1 : Option Addr) (n1 c1 : Nat) (home : Int) (A2 : Option Addr) (n2 c2 : Nat) (A3 : Option Addr) (n3 c3 : Nat) (s : Sky) (A : Option Addr) (n c : Nat) (l : List Sight) (g : St) (w : World) (hs : IsSky w A1 n1 home A2 n2 A3 n3 s) (h : Sights w A n l ∧ trkErr s l = 0) (hg : GoodG g) :
    Calls Try.prog 38 #[.agg #[.slice A1 n1 c1, .int .i64 home, .slice A2 n2 c2, .slice A3 n3 c3], .slice A n c, .agg #[.int .i64 g.x, .int .i64 g.y, .int .i64 g.u, .int .i64 g.v], .int .i64 0] w fun e w' => e = .returned (.int .i64 (missFrom s g 0 l 0)) ∧ Ext w w' := by
  have := Miss_c A1 n1 c1 home A2 n2 c2 A3 n3 c3 s g.x g.y g.u g.v 0 A n c l w hs h.1
  rw [missM_ok h.2 hg.ok] at this
  exact this
theorem grp_ok {s : Sky} {L : List (List Sight)} {G : List St} (hm : MadeSky s) (hL : ∀ l ∈ L, GoodT s l) (hl : L.length ≤ 6) (hG : ∀ x ∈ G, GoodG x) (hg : G.length ≤ 6) : grpErr s L G 0 = 0 := by
  rw [grpErr, hm.ok, if_neg (by simp), if_neg (by omega), goodTs_ok hm hL, if_neg (by simp), asks_ok (by omega) hG]

set_option maxRecDepth 4000 in
set_option maxHeartbeats 4000000 in
theorem SkyParts_c (A : Option Addr) (n c : Nat) (l : List Int) (w : World) (hl : Ints w A n l) :
    Calls Try.prog 13 #[.slice A n c] w fun e w' => e = .returned (.bool true) ∧ Ext w w' := by
  obtain ⟨ii, hii, hi0, hi1, hi2⟩ := info_parts info_int
  go_enter Try.func13, Try.ntmps13
  go_wp2_with fail
  refine (manyOf_c A n c l _ hl).mono ?_
  rintro e w1 ⟨A1, n1, c1, home, A2, n2, c2, A3, n3, c3, s, AL, nl, cl, L, AG, ng, cg, G, rfl, hs, hm, hL, hG, ⟨hL1, hL2⟩, hLg, ⟨hG1, hG2⟩, hGg, h1⟩
  have hnl : L.length = nl := hL.len.symm
  have hng : G.length = ng := hG.len.symm
  go_wp2_with fail
  obtain ⟨W1, hW1⟩ : ∃ W, W = w1.alloc (.cells #[.slice A1 n1 c1, .int .i64 home, .slice A2 n2 c2, .slice A3 n3 c3] 28) := ⟨_, rfl⟩
  rw [← hW1]
  have e1 : Ext w1 W1 := by rw [hW1]; exact Ext.alloc0 _ _
  have hA : Blk W1 w1.heap.size 28 #[.slice A1 n1 c1, .int .i64 home, .slice A2 n2 c2, .slice A3 n3 c3] := by rw [hW1]; exact Blk.newAt rfl
  clear hW1
  have hcA := hA.cell
  have hlA := hA.lt
  have eg := grp_ok hm hLg hL2 hGg hG2
  obtain ⟨hp, hcn⟩ := parts_law s L G eg
  have HGr := Groups_c A1 n1 c1 home A2 n2 c2 A3 n3 c3 s AL nl cl L AG ng cg G 0 W1 (hs.ext e1) (Trks.ext e1 hL) (Sts.ext e1 hG)
  rw [eg] at HGr
  have hcall := cnt_all hcn
  obtain ⟨T, hT⟩ : ∃ T : St → Int → Prop, T = fun g (i : Int) => ∃ (q : Nat) (h : q < L.length), i = (q : Int) ∧ missFrom s g 0 L[q] 0 < 0 := ⟨_, rfl⟩
  rw [← hT] at hp
  have HT := Lib.hid hT
  clear hT
  rw [hnl] at hp hcn hL2 hL1 hcall
  generalize grpR s L G 0 = R at *
  have Hp := Lib.hid hp
  have Hcn := Lib.hid hcn
  have Hcall := Lib.hid hcall
  have HLg := Lib.hid hLg
  have HGg := Lib.hid hGg
  have Hm := Lib.hid hm
  have hE1 := h1.trans e1
  clear hp hcn hcall hLg hGg hm eg hl h1
  go_wp2_with fail
  refine HGr.mono ?_
  rintro e w2 ⟨AR, cR, rfl, hR, h2⟩
  have Hs := Lib.hid (hs.ext (e1.trans h2))
  obtain ⟨qL, oL, hAL, hcellL⟩ := (Trks.ext (e1.trans h2) hL).at_ (by omega)
  have HcL := Lib.hid hcellL
  subst hAL
  clear hcellL
  have HG := Lib.hid (Sts.ext (e1.trans h2) hG)
  have HA := Lib.hid (hA.ext h2)
  have hE2 : Ext w w2 := hE1.trans h2
  clear hs hL hG hA hcA hlA HGr
  go_wp2_with (go_loud (refine wpList_make_full _ rfl (.tmp 34) (.tmp 34) 38 rfl w2.heap.size 3 ii _ 1 Try.underlying38 hii hi0 hi1 .i64 .i64 _ _ nl rfl rfl rfl rfl (by rw [hi2]; omega) (by unfold maxLen; omega) (Nat.le_refl _) ?_))
  intro w3 ho3 hg3
  rw [made_ints, ← cnt_nil] at ho3
  have hB3 := Lib.hid (own_full_int (cnt_len _ _) ho3)
  have e3 : Ext w2 w3 := grown_ext (Ext.refl _) hg3 (by intro j hj; cases hj)
  clear ho3 hg3
  obtain ⟨nR, hnR⟩ : ∃ k, k = R.length := ⟨_, rfl⟩
  rw [← hnR] at hR
  have hnR' := hR.le
  have HnR := Lib.hid hnR
  have HR := Lib.hid hR
  rw [← hnR]
  clear hR hnR
  go_wp2_with fail
  go_loopw [9, 10] (fun last i wr => ∃ (k : Nat) (m : Int), k ≤ nR ∧ i = .int .i64 k ∧ last = .int .i64 m ∧ Hid (PartsRest T G nl m (R.drop k)) ∧ Hid (Blk wr w2.heap.size 3 (intsC (cntL nl (R.take k).flatten))) ∧ Ext w2 wr) (fun _ i _ => nR - (intOf i).toNat)
  case atStart => exact ⟨0, -1, Nat.zero_le _, rfl, rfl, Hp.out, hB3.out, e3⟩
  case round =>
    obtain ⟨k, m, hk, rfl, rfl, HP, HB, hb⟩ := hrel
    obtain ⟨wo, rfl⟩ : ∃ wo : World, wo = wr := ⟨_, rfl⟩
    by_cases hlt : k < nR
    · obtain ⟨bR, oR, x, rfl, HD, hxm, A', n', c', hx, hx2⟩ := HR.out.one hlt
      simp only [Nat.mul_one] at hx
      have hx := hb.cell hx
      have hbR : bR < wo.heap.size := World.block_lt_of_cell? wo _ hx
      have hP := HP.out
      rw [HD.out, PartsRest] at hP
      obtain ⟨⟨hr, hsort⟩, hor⟩ := hP
      have hn' := hx2.le
      have hnx : x.length = n' := hx2.len.symm
      have hm : (1 ≤ n' ∧ n' ≤ 1) ∨ (2 ≤ n' ∧ m < 0) := by
        rcases hor with ⟨h1, h2, _⟩ | ⟨i, h1, _⟩
        · exact .inr ⟨by omega, h2⟩
        · left; rw [h1] at hnx; simp at hnx; omega
      have hn0 : ((n' : Int) == 0) = false := by simp; omega
      have Hor := Lib.hid hor
      have Hr := Lib.hid hr
      have Hsort := Lib.hid hsort
      have HX := Lib.hid hx2
      clear hor hr hsort hx2 HP
      rcases hm with ⟨hm, hm0⟩ | ⟨hm, hm0⟩
      all_goals (
        go_wp2_with fail
        go_loopw [12] (fun i wr => ∃ q : Nat, q ≤ n' ∧ i = .int .i64 q ∧ Hid (Blk wr w2.heap.size 3 (intsC (cntL nl ((R.take k).flatten ++ x.take q)))) ∧ Ext w2 wr) (fun i _ => n' - (intOf i).toNat)
        case atStart => exact ⟨0, Nat.zero_le _, rfl, by rw [List.take_zero, List.append_nil]; exact HB.out, hb⟩
        case round =>
          obtain ⟨q, hq, rfl, HB, hb⟩ := hrel
          by_cases hql : q < n'
          · obtain ⟨bx, ox, hA', hcx⟩ := (Ints.ext hb HX.out).at_ (by omega)
            subst hA'
            have hqx : q < x.length := by omega
            have hy := hcx q hqx
            have hbx : bx < wr.heap.size := World.block_lt_of_cell? wr _ hy
            simp only [Nat.mul_one] at hy
            change wr.cell? ⟨bx, ox + q, none⟩ = some (.int .i64 x[q]) at hy
            have hyr := Hr.out x[q] (List.getElem_mem _)
            obtain ⟨z, hz⟩ : ∃ z : Nat, x[q] = z := ⟨x[q].toNat, by omega⟩
            have hzl : z < nl := by omega
            have hd1 : decide ((z : Int) < 0) = false := by simp
            have hd2 : decide (nl ≤ z) = false := by simp; omega
            have hdr : x.drop q = x[q] :: x.drop (q + 1) := List.drop_eq_getElem_cons hqx
            have Hset : Hid (∀ W, Ext wr W → Blk (W.setCell ⟨w2.heap.size, z, none⟩ (.int .i64 (((((R.take k).flatten ++ x.take q).count (z : Int) : Nat) : Int) + 1))) w2.heap.size 3 (intsC (cntL nl ((R.take k).flatten ++ x.take (q + 1))))) := Lib.hid fun W hW => by
              have hset := (HB.out.ext hW).set_ z (.int .i64 (((((R.take k).flatten ++ x.take q).count (z : Int) : Nat) : Int) + 1))
              rw [intsC_set, ← cnt_snoc _ _ _ hzl, List.append_assoc, show x.take q ++ [(z : Int)] = x.take (q + 1) by rw [take_snoc hdr, hz]] at hset
              exact hset
            have hcz := HB.out.cell z
            rw [intsC_get, cnt_get _ _ _ hzl, Option.map_some] at hcz
            have hcf := HB.out.frozen z
            have hcl := HB.out.lt
            have hcle := pre_count (q := q) HD.out (z : Int)
            rw [Hcn.out z hzl] at hcle
            rw [hz] at hy
            generalize List.count (z : Int) ((R.take k).flatten ++ x.take q) = cc at *
            by_cases hq0 : q = 0
            · subst hq0
              rw [Nat.add_zero] at hy
              rw [show ((0 : Nat) : Int) = 0 from rfl]
              clear hcx hyr hdr
              go_wp2_with fail
              refine wp_region_text (by kernel_rfl) (by kernel_rfl) ?_
              repeat' (first | (refine bl_off (by rfl) ?_; simp only [Act.put, List.setIfInBounds_toArray, List.set_cons_zero, List.set_cons_succ]) | (apply bl_op; rfl; (intro w1 h1; obtain ⟨hc, hf, hz⟩ := bcell h1; go_simp; (try go_bits); (first | exact ⟨rfl, Ext.refl _⟩)); simp only [Act.put, List.setIfInBounds_toArray, List.set_cons_zero, List.set_cons_succ]) | (refine bl_split rfl rfl (fun hx => ?_) (fun hx => ?_) <;> simp only [hx]))
              refine bl_nil ?_
              intro w5 h5
              have hc5 := h5.cell hy
              have hcs5 := h5.cell hcz
              obtain ⟨hcb5, hfb5, hzb5⟩ := bcell h5
              clear hd1 hd2
              go_wp2_with fail
              go_roundw
              case rel => exact ⟨1, by omega, by go_num, Hset.out _ h5, Ext.set (hb.trans h5) (Nat.le_refl _) _⟩
              case measure => simp [intOf]; omega
            · try (exfalso; omega)
              all_goals (
                obtain ⟨p, hqp⟩ : ∃ p, q = p + 1 := ⟨q - 1, by omega⟩
                have hpq : (q : Int) - 1 = p := by omega
                have hp : p < n' := by omega
                have hq1 : 0 < q := by omega
                have hy2 := hcx p (by omega)
                simp only [Nat.mul_one] at hy2
                change wr.cell? ⟨bx, ox + p, none⟩ = some (.int .i64 x[p]) at hy2
                have hlt2 : x[p] < x[q] := List.pairwise_iff_getElem.1 Hsort.out p q (by omega) hqx (by omega)
                rw [hz] at hlt2
                generalize x[p] = y at *
                have hd3 : decide ((z : Int) ≤ y) = false := by simp; omega
                clear hcx hyr hdr hqp
                go_wp2_with fail
                refine wp_region_text (by kernel_rfl) (by kernel_rfl) ?_
                repeat' (first | (refine bl_off (by rfl) ?_; simp only [Act.put, List.setIfInBounds_toArray, List.set_cons_zero, List.set_cons_succ]) | (apply bl_op; rfl; (intro w1 h1; obtain ⟨hc, hf, hz⟩ := bcell h1; go_simp; (try go_bits); (first | exact ⟨rfl, Ext.refl _⟩)); simp only [Act.put, List.setIfInBounds_toArray, List.set_cons_zero, List.set_cons_succ]) | (refine bl_split rfl rfl (fun hx => ?_) (fun hx => ?_) <;> simp only [hx]))
                refine bl_nil ?_
                intro w5 h5
                have hc5 := h5.cell hy
                have hcs5 := h5.cell hcz
                obtain ⟨hcb5, hfb5, hzb5⟩ := bcell h5
                clear hd1 hd2 hd3
                go_wp2_with fail
                go_roundw
                case rel => exact ⟨q + 1, by omega, by go_num, Hset.out _ h5, Ext.set (hb.trans h5) (Nat.le_refl _) _⟩
                case measure => simp [intOf]; omega)
          · have hqn : q = n' := by omega
            have hB2 := HB.out
            rw [hqn, List.take_of_length_le (l := x) (i := n') (by omega), show (R.take k).flatten ++ x = (R.take (k + 1)).flatten by rw [take_snoc HD.out]; simp] at hB2
            have HB2 := Lib.hid hB2
            clear hB2 hqn
            obtain ⟨wi, rfl⟩ : ∃ wi : World, wi = wr := ⟨_, rfl⟩
            obtain ⟨bx, ox, hA', hcx⟩ := HX.out.at_ (by omega)
            subst hA'
            have Hcx := Lib.hid hcx
            clear hcx
            rcases Hor.out with ⟨h2x, hm0', hex, hrest⟩ | ⟨i0, hxi, hlt0, hrest⟩
            · by_cases hc1 : n' ≤ 1
              · exfalso; omega
              have hn1 : ((n' : Int) == 1) = false := by simp; omega
              have Hex := Lib.hid hex
              have Hrest := Lib.hid hrest
              clear hex hrest hm0' h2x
              go_wp2_with fail
              go_loopw [13, 14] (fun sv gi wr => ∃ (q : Nat) (sb : Bool), q ≤ ng ∧ gi = .int .i64 q ∧ sv = .bool sb ∧ Hid (sb = true ∨ ∃ g ∈ G.drop q, ∀ i ∈ x, T g i) ∧ Ext wi wr) (fun _ gi _ => ng - (intOf gi).toNat)
              case atStart => exact ⟨0, false, Nat.zero_le _, rfl, rfl, .inr Hex.out, Ext.refl _⟩
              case round =>
                obtain ⟨q, sb, hq, rfl, rfl, HS, hb3⟩ := hrel
                have hb4 := hb.trans hb3
                obtain ⟨wj, rfl⟩ : ∃ wj : World, wj = wr := ⟨_, rfl⟩
                by_cases hql : q < ng
                · obtain ⟨qg, og, g, hAG, HDg, hgm, hgc⟩ := (Sts.ext hb4 HG.out).one hql
                  subst hAG
                  have Hgc := Lib.hid hgc
                  clear hgc
                  go_wp2_with fail
                  go_loopw [15, 16] (fun av ki wr => ∃ (p : Nat) (ab : Bool), p ≤ n' ∧ ki = .int .i64 p ∧ av = .bool ab ∧ Hid ((∀ i ∈ x, T g i) → ab = true) ∧ Ext wj wr) (fun _ ki _ => n' - (intOf ki).toNat)
                  case atStart => exact ⟨0, true, Nat.zero_le _, rfl, rfl, fun _ => rfl, Ext.refl _⟩
                  case round =>
                    obtain ⟨p, ab, hp, rfl, rfl, HT2, hb5⟩ := hrel
                    have hb6 := hb4.trans hb5
                    by_cases hpl : p < n'
                    · cases ab
                      · go_wp2_with fail
                        refine wp_region_text (by kernel_rfl) (by kernel_rfl) ?_
                        repeat' (first | (refine bl_off (by rfl) ?_; simp only [Act.put, List.setIfInBounds_toArray, List.set_cons_zero, List.set_cons_succ]) | (apply bl_op; rfl; (intro w1 h1; obtain ⟨hc, hf, hz⟩ := bcell h1; go_simp; (try go_bits); (first | exact ⟨rfl, Ext.refl _⟩)); simp only [Act.put, List.setIfInBounds_toArray, List.set_cons_zero, List.set_cons_succ]) | (refine bl_split rfl rfl (fun hx => ?_) (fun hx => ?_) <;> simp only [hx]))
                        refine bl_nil ?_
                        intro w7 h7
                        go_wp2_with fail
                        go_roundw
                        case rel => exact ⟨p + 1, false, by omega, by go_num, rfl, HT2, hb5.trans h7⟩
                        case measure => simp [intOf]; omega
                      · have hpx : p < x.length := by omega
                        have hy := hb6.cell (Hcx.out p hpx)
                        have hbx : bx < wr.heap.size := World.block_lt_of_cell? wr _ hy
                        simp only [Nat.mul_one] at hy
                        change wr.cell? ⟨bx, ox + p, none⟩ = some (.int .i64 x[p]) at hy
                        have hyr := Hr.out x[p] (List.getElem_mem _)
                        obtain ⟨z, hz⟩ : ∃ z : Nat, x[p] = z := ⟨x[p].toNat, by omega⟩
                        have hzl : z < nl := by omega
                        have hzL : z < L.length := by omega
                        obtain ⟨Bt, nt, ct, hct, hst⟩ := HcL.out z hzL
                        have hct := hb6.cell hct
                        rw [Nat.mul_one] at hct
                        have hqL : qL < wr.heap.size := World.block_lt_of_cell? wr _ hct
                        have hTz : Hid ((∀ i ∈ x, T g i) → missFrom s g 0 L[z] 0 = -1) := Lib.hid fun h => by
                          have h1 := h x[p] (List.getElem_mem _)
                          rw [hz, HT.out] at h1
                          obtain ⟨z', hz', he, hlt⟩ := h1
                          have : z' = z := by omega
                          subst this
                          have := miss_ge s g 0 L[z']
                          omega
                        have HM := Lib.hid fun W (hW : Ext wr W) => miss_good A1 n1 c1 home A2 n2 c2 A3 n3 c3 s Bt nt ct L[z] g W (Hs.out.ext (hb6.trans hW)) ⟨Sights.ext (hb6.trans hW) hst, (HLg.out _ (List.getElem_mem _)).ok Hm.out⟩ (HGg.out g hgm)
                        obtain ⟨hg0, hg1, hg2, hg3⟩ := stAt.ext hb5 Hgc.out
                        have hqg : qg < wr.heap.size := World.block_lt_of_cell? wr _ hg0
                        have hcA := (HA.out.ext hb6).cell
                        have hlA := (HA.out.ext hb6).lt
                        rw [hz] at hy
                        generalize missFrom s g 0 L[z] 0 = P at *
                        clear hyr hz hst
                        by_cases hP : P = -1
                        · subst hP
                          go_wp2_with fail
                          refine wp_region_text (by kernel_rfl) (by kernel_rfl) ?_
                          repeat' (first | (refine bl_off (by rfl) ?_; simp only [Act.put, List.setIfInBounds_toArray, List.set_cons_zero, List.set_cons_succ]) | (apply bl_op; rfl; (intro w1 h1; obtain ⟨hc, hf, hz⟩ := bcell h1; go_simp; (try go_bits); (first | exact ⟨rfl, Ext.refl _⟩ | (apply gives_call; go_at_call 38; exact HM.out _ h1) | (go_invoke; go_simp; apply gives_call; go_at_call 38; exact HM.out _ h1))); simp only [Act.put, List.setIfInBounds_toArray, List.set_cons_zero, List.set_cons_succ]) | (refine bl_split rfl rfl (fun hx => ?_) (fun hx => ?_) <;> simp only [hx]))
                          refine bl_nil ?_
                          intro w7 h7
                          go_wp2_with fail
                          go_roundw
                          case rel => exact ⟨p + 1, true, by omega, by go_num, rfl, fun _ => rfl, hb5.trans h7⟩
                          case measure => simp [intOf]; omega
                        · have hP2 : (P == -1) = false := by simpa using hP
                          go_wp2_with fail
                          refine wp_region_text (by kernel_rfl) (by kernel_rfl) ?_
                          repeat' (first | (refine bl_off (by rfl) ?_; simp only [Act.put, List.setIfInBounds_toArray, List.set_cons_zero, List.set_cons_succ]) | (apply bl_op; rfl; (intro w1 h1; obtain ⟨hc, hf, hz⟩ := bcell h1; go_simp; (try go_bits); (first | exact ⟨rfl, Ext.refl _⟩ | (apply gives_call; go_at_call 38; exact HM.out _ h1) | (go_invoke; go_simp; apply gives_call; go_at_call 38; exact HM.out _ h1))); simp only [Act.put, List.setIfInBounds_toArray, List.set_cons_zero, List.set_cons_succ]) | (refine bl_split rfl rfl (fun hx => ?_) (fun hx => ?_) <;> simp only [hx]))
                          refine bl_nil ?_
                          intro w7 h7
                          go_wp2_with fail
                          go_roundw
                          case rel => exact ⟨p + 1, false, by omega, by go_num, rfl, fun h => absurd (hTz.out h) hP, hb5.trans h7⟩
                          case measure => simp [intOf]; omega
                    · have HS' := Lib.hid (show (sb || ab) = true ∨ ∃ g ∈ G.drop (q + 1), ∀ i ∈ x, T g i from by
                        rcases HS.out with h | ⟨g', hg', h⟩
                        · left; rw [h]; rfl
                        · rw [HDg.out] at hg'
                          rcases List.mem_cons.1 hg' with rfl | hg'
                          · left; rw [HT2.out h]; simp
                          · exact .inr ⟨g', hg', h⟩)
                      cases sb <;> cases ab
                      all_goals go_wp2_with fail
                      all_goals go_roundw
                      all_goals first
                        | exact ⟨q + 1, _, by omega, by go_num, rfl, HS'.out, hb3.trans hb5⟩
                        | (simp [intOf]; omega)
                · have hqn : q = ng := by omega
                  have hsb : sb = true := by
                    rcases HS.out with h | ⟨g', hg', h⟩
                    · exact h
                    · rw [hqn, ← hng, List.drop_length] at hg'; cases hg'
                  subst hsb
                  go_wp2_with fail
                  go_roundw
                  case rel => exact ⟨k + 1, m, by omega, by go_num, rfl, Hrest.out, HB2.out.ext hb3, hb.trans hb3⟩
                  case measure => simp [intOf]; omega
            · have hn1 : n' = 1 := by rw [← hnx, hxi]; rfl
              try (exfalso; omega)
              all_goals (
                have hy := hb.cell (Hcx.out 0 (by omega))
                have hbx : bx < wi.heap.size := World.block_lt_of_cell? wi _ hy
                simp only [Nat.zero_mul, Nat.add_zero] at hy
                change wi.cell? ⟨bx, ox, none⟩ = some (.int .i64 x[0]) at hy
                have hx0 : x[0] = i0 := by simp [hxi]
                rw [hx0] at hy
                have Hrest := Lib.hid hrest
                have hn2 : ((n' : Int) == 1) = true := by simp; omega
                by_cases hc1 : 2 ≤ n'
                · exfalso; omega
                have hn3 : n' ≤ 1 := by omega
                clear hxi hx0 hrest hn1 hc1
                go_wp2_with fail
                go_roundw
                case rel => exact ⟨k + 1, i0, by omega, by go_num, rfl, Hrest.out, HB2.out, hb⟩
                case measure => first | (simp [intOf]; done) | (simp [intOf]; omega)))
    · have hkn : k = nR := by omega
      have hB2 := HB.out
      rw [hkn, HnR.out, List.take_length, Hcall.out] at hB2
      have HB2 := Lib.hid hB2
      clear hB2 HB HP
      go_wp2_with fail
      go_loopw [17] (fun i wr => ∃ q : Nat, q ≤ nl ∧ i = .int .i64 q ∧ Ext wo wr) (fun i _ => nl - (intOf i).toNat)
      case atStart => exact ⟨0, Nat.zero_le _, rfl, Ext.refl _⟩
      case round =>
        obtain ⟨q, hq, rfl, hb3⟩ := hrel
        by_cases hql : q < nl
        · have hcz := (HB2.out.ext hb3).cell q
          have hlz := (HB2.out.ext hb3).lt
          rw [intsC_get, List.getElem?_replicate, if_pos hql, Option.map_some] at hcz
          go_wp2_with fail
          go_roundw
          case rel => exact ⟨q + 1, by omega, by go_num, hb3⟩
          case measure => simp [intOf]; omega
        · have hqn : q = nl := by omega
          clear hql
          go_wp2_with fail
          refine (awake_c _).mono ?_
          rintro e w6 ⟨rfl, h6⟩
          go_wp2_with fail
          go_ret
          exact ⟨rfl, hE2.trans (hb.trans (hb3.trans h6))⟩
end Go.Proofs.Ytmgjjgmadiabfaa
