/- Which missions fly, and work, with a failure set: the program. No condition. -/
import Derived.Test.YtiladlangkjoiaaGreatPushMem
import Derived.Test.YtiladlangkjoiaaGreatOwnMis
import Derived.Test.YtiladlangkjoiaaGreatOwnInts
namespace Go.Proofs.YtiladlangkjoiaaGreat
open Go.RowKit

set_option maxHeartbeats 400000 in
theorem idxInt_c (A : Option Addr) (n c : Nat) (l : List Int) (fid : Nat) (cap : Array Value) (p : Int → Bool) (w : World) (hl : Ints w A n l)
    (hcall : ∀ (xs : Array Value) (W : World), (callFunc fid xs).run Tryz.prog W = .ok (.enter fid xs) W)
    (hf : ∀ x ∈ l, ∀ W, Ext w W → Calls Tryz.prog fid (#[.int .i64 x] ++ cap) W fun e w' => e = .returned (.bool (p x)) ∧ Ext W w') :
    Calls Tryz.prog 297 #[.slice A n c, .func (.func fid) #[] cap] w fun e w' => e = .returned (.int .i64 (idxFrom p l 0)) ∧ Ext w w' := by
  have hn := hl.le
  have Hf := Lib.hid hf
  clear hf
  go_enter Tryz.func297, Tryz.ntmps297
  go_wp2_with fail
  go_loopw [8] (fun i wr => ∃ k : Nat, k ≤ n ∧ i = .int .i64 k ∧ Hid (idxFrom p (l.drop k) k = idxFrom p l 0) ∧ Ext w wr) (fun i _ => n - (intOf i).toNat)
  case atStart => exact ⟨0, Nat.zero_le _, rfl, rfl, Ext.refl _⟩
  case round =>
    obtain ⟨k, hk, rfl, HI, hb⟩ := hrel
    by_cases hlt : k < n
    · obtain ⟨b, off, x, rfl, HD, hxm, hx⟩ := hl.one hlt
      have hx := hb.cell hx
      simp only [Nat.mul_one] at hx
      go_wp2_with fail
      refine (Hf.out x hxm _ hb).mono ?_
      rintro e w1 ⟨rfl, h1⟩
      cases hp : p x
      · go_wp2_with fail
        go_roundw
        case rel => exact ⟨k + 1, by omega, by go_num, by have := HI.out; rw [HD.out] at this; simpa [Hid, idxFrom, hp] using this, hb.trans h1⟩
        case measure => simp [intOf]; omega
      · go_wp2_with fail
        go_ret
        exact ⟨ret_i (by have := HI.out; rw [HD.out] at this; simpa [idxFrom, hp] using this), hb.trans h1⟩
    · have : k = l.length := by have := hl.len; omega
      subst this
      go_wp2_with fail
      go_ret
      refine ⟨ret_i ?_, hb⟩
      have := HI.out
      simpa [idxFrom] using this
set_option maxHeartbeats 400000 in
theorem hasInt_c (A : Option Addr) (n c : Nat) (l : List Int) (fid : Nat) (cap : Array Value) (p : Int → Bool) (w : World) (hl : Ints w A n l)
    (hcall : ∀ (xs : Array Value) (W : World), (callFunc fid xs).run Tryz.prog W = .ok (.enter fid xs) W)
    (hf : ∀ x ∈ l, ∀ W, Ext w W → Calls Tryz.prog fid (#[.int .i64 x] ++ cap) W fun e w' => e = .returned (.bool (p x)) ∧ Ext W w') :
    Calls Tryz.prog 258 #[.slice A n c, .func (.func fid) #[] cap] w fun e w' => e = .returned (.bool (hasP p l)) ∧ Ext w w' := by
  have Hf := Lib.hid hf
  clear hf
  go_enter Tryz.func258, Tryz.ntmps258
  go_wp2_with fail
  refine (idxInt_c A n c l fid cap p w hl hcall Hf.out).mono ?_
  rintro e w1 ⟨rfl, h1⟩
  go_wp2_with fail
  go_ret
  exact ⟨ret_b (by simp [hasP]), h1⟩
set_option maxHeartbeats 400000 in
theorem flies1_c (x i : Int) (b : Nat) (w : World) (hB : Blk w b 3 #[.int .i64 i]) :
    Calls Tryz.prog 260 #[.int .i64 x, .pointer (some ⟨b, 0, none⟩)] w fun e w' => e = .returned (.bool (decide (x < i))) ∧ Ext w w' := by
  have hc := hB.cell
  have hl := hB.lt
  go_enter Tryz.func260, Tryz.ntmps260
  go_wp2_with fail
  go_ret
  exact ⟨rfl, ext_by⟩
set_option maxRecDepth 20000 in
set_option maxHeartbeats 2000000 in
theorem pFlies_c (c : Camp) (A1 : Option Addr) (n1 c1 : Nat) (A2 : Option Addr) (n2 c2 : Nat) (B : Option Addr) (m e : Nat) (F : List Int) (i : Int) (w : World) (hm : Miss w A1 n1 c.missions) (hF : Ints w B m F) (hi : 0 ≤ i ∧ i < c.missions.length) :
    Calls Tryz.prog 199 #[.agg #[.slice A1 n1 c1, .int .i64 c.body.lo, .int .i64 c.body.hi, .int .i64 c.fast, .int .i64 c.fails, .int .i64 c.miss, .int .i64 c.ticks, .slice A2 n2 c2], .slice B m e, .int .i64 i] w fun e w' => e = .returned (.bool (fliesM (resv c) F i)) ∧ Ext w w' := by
  obtain ⟨k, rfl⟩ := Int.eq_ofNat_of_zero_le hi.1
  have hk : k < c.missions.length := by omega
  have hx : c.missions[k]? = some c.missions[k] := List.getElem?_eq_getElem hk
  have hR : fliesM (resv c) F k = (!(c.missions[k]).reserve || F.any fun n => decide (n < k)) := by
    unfold fliesM resv
    rw [Int.toNat_natCast, List.getD_eq_getElem?_getD, List.getElem?_map, hx]
    rfl
  rw [hR]
  have hl1 := hm.le
  generalize c.missions[k] = x at *
  obtain ⟨hin, b, off, rfl, hcx⟩ := hm.get hx
  have hr := hcx.2.2.2.2.2.2.2.2.2.2.2.2.1
  have hbl : b < w.heap.size := World.block_lt_of_cell? w _ hr
  have HH := Lib.hid fun g W (hW : Ext w W) (hB : Blk W g 3 #[.int .i64 (k : Int)]) => hasInt_c B m e F 260 #[.pointer (some ⟨g, 0, none⟩)] (fun n => decide (n < (k : Int))) W (Ints.ext hW hF) Tryz.call260 (fun x _ W2 hW2 => flies1_c x k g W2 (hB.ext hW2))
  have hany : hasP (fun n => decide (n < (k : Int))) F = F.any fun n => decide (n < (k : Int)) := hasP_eq _ _
  rw [hany] at HH
  generalize (F.any fun n => decide (n < (k : Int))) = R at *
  clear hcx hx hR hF hm hi hk hany
  cases hres : x.reserve
  · rw [hres] at hr
    go_enter Tryz.func199, Tryz.ntmps199
    go_wp2_with fail
    go_ret
    exact ⟨rfl, ext_by⟩
  · rw [hres] at hr
    go_enter Tryz.func199, Tryz.ntmps199
    go_wp2_with fail
    refine (HH.out _ _ ext_by (Blk.newAt (by simp))).mono ?_
    rintro e w1 ⟨rfl, h1⟩; obtain ⟨hc_w1, hf_w1, hz_w1⟩ := bcell h1; (try simp only [szA] at hz_w1); have : w.heap.size < w1.heap.size := (by omega); have : w.heap.size + 1 < w1.heap.size := (by omega)
    go_wp2_with fail
    go_ret
    exact ⟨rfl, ext_by⟩
abbrev campBlk (w : World) (g : Nat) (A1 : Option Addr) (n1 c1 : Nat) (A2 : Option Addr) (n2 c2 : Nat) (c : Camp) : Prop := Blk w g 36 #[.slice A1 n1 c1, .int .i64 c.body.lo, .int .i64 c.body.hi, .int .i64 c.fast, .int .i64 c.fails, .int .i64 c.miss, .int .i64 c.ticks, .slice A2 n2 c2]
set_option maxRecDepth 20000 in
set_option maxHeartbeats 2000000 in
theorem counts1_c (c : Camp) (A1 : Option Addr) (n1 c1 : Nat) (A2 : Option Addr) (n2 c2 : Nat) (B : Option Addr) (m e : Nat) (F : List Int) (i : Int) (g1 g2 : Nat) (w : World) (hm : Miss w A1 n1 c.missions) (hF : Ints w B m F) (hi : 0 ≤ i ∧ i < c.missions.length)
    (hB1 : campBlk w g1 A1 n1 c1 A2 n2 c2 c) (hB2 : Blk w g2 56 #[.slice B m e]) :
    Calls Tryz.prog 259 #[.int .i64 i, .pointer (some ⟨g1, 0, none⟩), .pointer (some ⟨g2, 0, none⟩)] w fun e w' => e = .returned (.bool (!fliesM (resv c) F i)) ∧ Ext w w' := by
  have H := Lib.hid fun W (hW : Ext w W) => pFlies_c c A1 n1 c1 A2 n2 c2 B m e F i W (Miss.ext hW hm) (Ints.ext hW hF) hi
  generalize fliesM _ _ _ = R at *
  have hc1 := hB1.cell
  have hl1 := hB1.lt
  have hc2 := hB2.cell
  have hl2 := hB2.lt
  clear hm hF hi
  go_enter Tryz.func259, Tryz.ntmps259
  go_wp2_with fail
  refine (H.out _ ext_by).mono ?_
  rintro e w1 ⟨rfl, h1⟩
  obtain ⟨hc_w1, hf_w1, hz_w1⟩ := bcell h1; (try simp only [szA] at hz_w1); (try have := wz0 w w1); (try have := wz1 w w1); (try have := wz2 w w1); (try have := wz3 w w1); (try have := wz4 w w1)
  go_wp2_with fail
  go_ret
  exact ⟨rfl, ext_by⟩
set_option maxRecDepth 20000 in
set_option maxHeartbeats 2000000 in
theorem pCounts_c (c : Camp) (A1 : Option Addr) (n1 c1 : Nat) (A2 : Option Addr) (n2 c2 : Nat) (B : Option Addr) (m e : Nat) (F : List Int) (w : World) (hm : Miss w A1 n1 c.missions) (hF : Ints w B m F) (hi : ∀ i ∈ F, 0 ≤ i ∧ i < (c.missions.length : Int)) :
    Calls Tryz.prog 196 #[.agg #[.slice A1 n1 c1, .int .i64 c.body.lo, .int .i64 c.body.hi, .int .i64 c.fast, .int .i64 c.fails, .int .i64 c.miss, .int .i64 c.ticks, .slice A2 n2 c2], .slice B m e] w fun e w' => e = .returned (.bool (countsM (resv c) F)) ∧ Ext w w' := by
  have HH := Lib.hid fun g1 g2 W (hW : Ext w W) (hB1 : campBlk W g1 A1 n1 c1 A2 n2 c2 c) (hB2 : Blk W g2 56 #[.slice B m e]) => hasInt_c B m e F 259 #[.pointer (some ⟨g1, 0, none⟩), .pointer (some ⟨g2, 0, none⟩)] (fun i => !fliesM (resv c) F i) W (Ints.ext hW hF) Tryz.call259
    (fun x hx W2 hW2 => counts1_c c A1 n1 c1 A2 n2 c2 B m e F x g1 g2 W2 (Miss.ext (hW.trans hW2) hm) (Ints.ext (hW.trans hW2) hF) (hi x hx) (hB1.ext hW2) (hB2.ext hW2))
  have hany : hasP (fun i => !fliesM (resv c) F i) F = F.any fun i => !fliesM (resv c) F i := hasP_eq _ _
  rw [hany] at HH
  unfold countsM
  generalize (F.any fun i => !fliesM (resv c) F i) = R at *
  clear hm hF hi hany
  go_enter Tryz.func196, Tryz.ntmps196
  go_wp2_with fail
  refine (HH.out _ _ _ ext_by ((Blk.newAt (by simp)).alloc _) (Blk.newAt (by simp))).mono ?_
  rintro e w1 ⟨rfl, h1⟩; obtain ⟨hc_w1, hf_w1, hz_w1⟩ := bcell h1; (try simp only [szA] at hz_w1); have : w.heap.size < w1.heap.size := (by omega); have : w.heap.size + 1 < w1.heap.size := (by omega)
  go_wp2_with fail
  go_ret
  exact ⟨rfl, ext_by⟩
set_option maxHeartbeats 400000 in
theorem indexInt_c (A : Option Addr) (n c : Nat) (l : List Int) (v : Int) (w : World) (hl : Ints w A n l) :
    Calls Tryz.prog 261 #[.slice A n c, .int .i64 v] w fun e w' => e = .returned (.int .i64 (idxFrom (fun x => v == x) l 0)) ∧ Ext w w' := by
  have hn := hl.le
  go_enter Tryz.func261, Tryz.ntmps261
  go_wp2_with fail
  go_loopw [8] (fun i wr => ∃ k : Nat, k ≤ n ∧ i = .int .i64 k ∧ Hid (idxFrom (fun x => v == x) (l.drop k) k = idxFrom (fun x => v == x) l 0) ∧ Ext w wr) (fun i _ => n - (intOf i).toNat)
  case atStart => exact ⟨0, Nat.zero_le _, rfl, rfl, Ext.refl _⟩
  case round =>
    obtain ⟨k, hk, rfl, HI, hb⟩ := hrel
    by_cases hlt : k < n
    · obtain ⟨b, off, x, rfl, HD, hxm, hx⟩ := hl.one hlt
      have hx := hb.cell hx
      simp only [Nat.mul_one] at hx
      have hi := HI.out
      rw [HD.out, idxFrom] at hi
      have Hi := Lib.hid hi
      clear hi
      by_cases hp : v = x
      · subst hp
        go_wp2_with fail
        go_ret
        exact ⟨ret_i (by have := Hi.out; simpa using this), hb⟩
      · go_wp2_with fail
        go_roundw
        case rel => exact ⟨k + 1, by omega, by go_num, by have := Hi.out; simpa [Hid, hp] using this, hb⟩
        case measure => simp [intOf]; omega
    · have : k = l.length := by have := hl.len; omega
      subst this
      go_wp2_with fail
      go_ret
      refine ⟨ret_i ?_, hb⟩
      have := HI.out
      simpa [idxFrom] using this
set_option maxHeartbeats 400000 in
theorem containsInt_c (A : Option Addr) (n c : Nat) (l : List Int) (v : Int) (w : World) (hl : Ints w A n l) :
    Calls Tryz.prog 200 #[.slice A n c, .int .i64 v] w fun e w' => e = .returned (.bool (l.contains v)) ∧ Ext w w' := by
  have H := Lib.hid (indexInt_c A n c l v w hl)
  have he : decide (0 ≤ idxFrom (fun x => v == x) l 0) = l.contains v := by
    have h := hasP_eq (fun x => v == x) l
    unfold hasP at h
    rw [h, List.any_beq]
  rw [← he]
  clear he hl
  go_enter Tryz.func200, Tryz.ntmps200
  go_wp2_with fail
  refine H.out.mono ?_
  rintro e w1 ⟨rfl, h1⟩
  go_wp2_with fail
  go_ret
  exact ⟨rfl, ext_by⟩
def workF (R : List Bool) (F : List Int) (k : Nat) : List Int := ((List.range' k (R.length - k)).map fun i : Nat => (i : Int)).filter fun i => fliesM R F i && !F.contains i
theorem workF_zero (R : List Bool) (F : List Int) : workF R F 0 = workM R F := by unfold workF workM; rw [List.range_eq_range', Nat.sub_zero]
theorem workF_step {R : List Bool} {F : List Int} {k : Nat} (h : k < R.length) : workF R F k = (if fliesM R F k && !F.contains (k : Int) then [(k : Int)] else []) ++ workF R F (k + 1) := by
  unfold workF
  rw [show R.length - k = (R.length - (k + 1)) + 1 by omega, List.range'_succ, List.map_cons, List.filter_cons]
  split <;> simp
set_option maxRecDepth 20000 in
set_option maxHeartbeats 4000000 in
theorem pWorking_c (c : Camp) (A1 : Option Addr) (n1 c1 : Nat) (A2 : Option Addr) (n2 c2 : Nat) (B : Option Addr) (m e : Nat) (F : List Int) (w : World) (hm : Miss w A1 n1 c.missions) (hF : Ints w B m F) (hz : n1 ≤ 6) :
    Calls Tryz.prog 122 #[.agg #[.slice A1 n1 c1, .int .i64 c.body.lo, .int .i64 c.body.hi, .int .i64 c.fast, .int .i64 c.fails, .int .i64 c.miss, .int .i64 c.ticks, .slice A2 n2 c2], .slice B m e] w fun e w' => ∃ v, e = .returned v ∧ OwnInts w.heap.size w' v (workM (resv c) F) ∧ Ext w w' := by
  have hln := hm.len
  have HF := Lib.hid fun (i : Nat) (hi : i < n1) W (hW : Ext w W) => pFlies_c c A1 n1 c1 A2 n2 c2 B m e F i W (Miss.ext hW hm) (Ints.ext hW hF) (by omega)
  have HC := Lib.hid fun (i : Nat) W (hW : Ext w W) => containsInt_c B m e F i W (Ints.ext hW hF)
  have hrl : (resv c).length = n1 := by unfold resv; rw [List.length_map, ← hln]
  obtain ⟨T, hT⟩ : ∃ T, workM (resv c) F = T := ⟨_, rfl⟩
  have HS := Lib.hid fun k (h : k < n1) => workF_step (R := resv c) (F := F) (k := k) (by omega)
  have HT : Hid (workF (resv c) F 0 = T) := (workF_zero _ _).trans hT
  have HN : Hid (workF (resv c) F n1 = []) := by unfold workF; rw [hrl, Nat.sub_self]; rfl
  rw [hT]
  generalize hWF : workF (resv c) F = WF at *
  clear hWF
  generalize fliesM (resv c) F = FM at *
  generalize F.contains = FC at *
  obtain ⟨ic, hic, hc0, hc1, hc2⟩ := info_parts info_int
  clear hm hF hrl hT hln
  go_enter Tryz.func122, Tryz.ntmps122
  go_wp2_with fail
  refine name_world _ ?_
  intro w1 hw1
  have B1 : campBlk w1 w.heap.size A1 n1 c1 A2 n2 c2 c := by rw [hw1]; exact Blk.newAt rfl
  have E1 : Ext w w1 := by rw [hw1]; exact Ext.alloc0 _ _
  clear hw1
  go_loopw [5, 10] (fun v i wr => ∃ (k : Nat) (acc : List Int), k ≤ n1 ∧ i = .int .i64 k ∧ acc.length ≤ k ∧ Hid (acc ++ WF k = T) ∧ Hid (OwnInts w.heap.size wr v acc) ∧ Hid (campBlk wr w.heap.size A1 n1 c1 A2 n2 c2 c) ∧ Ext w wr) (fun _ i _ => n1 - (intOf i).toNat)
  case atStart => exact ⟨0, [], Nat.zero_le _, rfl, Nat.le_refl _, HT, Lib.hid (OwnInts.nil _ _), Lib.hid B1, E1⟩
  case round =>
    obtain ⟨k, acc, hk, rfl, hal, HI, HO, HB1, hb⟩ := hrel
    clear B1 E1
    have B1 := HB1.out
    clear HB1
    by_cases hlt : k < n1
    · have hi := HI.out
      rw [HS.out k hlt] at hi
      have H1 := Lib.hid (HF.out k hlt)
      have H2 := Lib.hid (HC.out k)
      generalize FM (k : Int) = f1 at *
      generalize FC (k : Int) = f2 at *
      have Hi := Lib.hid hi
      have hk1 : k + 1 ≤ n1 := hlt
      clear hi HF HC HS HI
      have c_B1 := B1.cell; have f_B1 := B1.frozen; have l_B1 := B1.lt
      cases f1
      · have hi := Hi.out
        simp only [Bool.false_and, Bool.false_eq_true, if_false, List.nil_append] at hi
        have Hi := Lib.hid hi
        clear hi
        go_wp2_with fail
        refine (H1.out _ hb).mono ?_
        rintro e w2 ⟨rfl, h2⟩
        clear c_B1 f_B1 l_B1
        go_wp2_with fail
        go_roundw
        case rel => exact ⟨k + 1, acc, hk1, by go_num, by omega, Hi, Lib.hid (HO.out.ext h2), Lib.hid (B1.ext h2), hb.trans h2⟩
        case measure => simp [intOf]; omega
      · cases f2
        · have hi := Hi.out
          simp only [Bool.not_false, Bool.true_and, if_true] at hi
          have Hi := Lib.hid hi
          clear hi
          go_wp2_with fail
          refine (H1.out _ hb).mono ?_
          rintro e w2 ⟨rfl, h2⟩
          clear c_B1 f_B1 l_B1
          go_wp2_with fail
          refine (H2.out _ ext_by).mono ?_
          rintro e w3 ⟨rfl, h3⟩
          have HO3 := Lib.hid ((HO.out.ext h2).ext h3)
          have B3 := (B1.ext h2).ext h3
          have E3 := (hb.trans h2).trans h3
          clear h2 h3 HO B1 hb H1 H2
          have z3 := E3.size
          go_wp2_with (at_builtin; go_loud (refine wpList_append_sl rfl (.tmp 23) (.tmp 25) 56 rfl w.heap.size 3 ic _ 1 8 Tryz.underlying56 hic hc0 hc1 hc2 rfl (by decide) _ acc.length (acc.flatMap intC) rfl (own_ext_keep HO3.out ext_by) (some ⟨w3.heap.size, 0, none⟩) 1 1 [.int .i64 k] rfl rfl (.inr ⟨_, rfl, new_cells (by simp)⟩) (by intro u hu; simp at hu; rcases hu with rfl; rfl) (by unfold maxLen; omega) (by omega) (by simp; omega) ?_))
          intro v6 w6 ho6 hg6 hn6
          have e6 := own_ext (w0 := w) (E3.alloc _) (own_ext_keep HO3.out (Ext.alloc0 _ _)) hg6 (Nat.le_refl _)
          have B6 := (B3.alloc (.cells #[.int .i64 (k : Int)] 3)).grown hg6 (own_blk (own_ext_keep HO3.out (Ext.alloc0 _ (.cells #[.int .i64 (k : Int)] 3))) (B3.alloc (.cells #[.int .i64 (k : Int)] 3)) (by decide))
          have HO6 := Lib.hid (OwnInts.ofSnoc rfl ho6)
          clear ho6 hg6 hn6 HO3 B3 E3
          go_wp2_with fail
          go_roundw
          case rel => exact ⟨k + 1, acc ++ [(k : Int)], hk1, by go_num, by simp; omega, Lib.hid (by rw [List.append_assoc]; exact Hi.out), HO6, Lib.hid B6, e6⟩
          case measure => simp [intOf]; omega
        · have hi := Hi.out
          simp only [Bool.not_true, Bool.and_false, Bool.false_eq_true, if_false, List.nil_append] at hi
          have Hi := Lib.hid hi
          clear hi
          go_wp2_with fail
          refine (H1.out _ hb).mono ?_
          rintro e w2 ⟨rfl, h2⟩
          clear c_B1 f_B1 l_B1
          go_wp2_with fail
          refine (H2.out _ ext_by).mono ?_
          rintro e w3 ⟨rfl, h3⟩
          go_wp2_with fail
          go_roundw
          case rel => exact ⟨k + 1, acc, hk1, by go_num, by omega, Hi, Lib.hid ((HO.out.ext h2).ext h3), Lib.hid ((B1.ext h2).ext h3), ext_by⟩
          case measure => simp [intOf]; omega
    · have hkn : k = n1 := by omega
      subst hkn
      have hi := HI.out
      rw [HN.out, List.append_nil] at hi
      subst hi
      clear HI HF HC HS HN
      go_wp2_with fail
      go_ret
      exact ⟨_, rfl, HO.out, hb⟩
end Go.Proofs.YtiladlangkjoiaaGreat
