/- A box in a list of boxes is replaced by two. No condition. -/
import Derived.Test.YtfniicgoeljmdaaGreatFilter
import Derived.Test.YtfniicgoeljmdaaGreatLast
namespace Go.Proofs.YtfniicgoeljmdaaGreat
open Go.RowKit

theorem wp_region_fin {P : Program} {Q : Exit → Act → World → Prop} {id : Nat} {l : List Oper} (n : Nat) (S : World → Prop) {a : Act} {w : World} (hst : Stable S) (hS : S w.drew) (hm : P.follows .mixedOrders = true) (hok : lastOk l.toArray n = true)
    (h : BL P l.toArray S (l.take n) a (fun a' => ∀ w', S w' → (pick1 l n).guard = none ∧ RunsTo P (fun v w1 => Q .normal (a'.put (pick1 l n).dst v) w1) ((execOp a'.eval (pick1 l n)).run P w'))) : (Code.region id l.toArray true).wp P Q a w := by
  rw [pick1_eq] at h
  exact wp_region_last n S hst hS hm hok h
theorem two_splices {α : Type} (Z P Y D : List α) (k m r : Nat) (hP : Z.take k = P) (hk : k ≤ Z.length) (hY : Y.length = m) (hD : D.length = r) (_ : k + m + r ≤ Z.length) :
    ((Z.take k ++ Y ++ Z.drop (k + Y.length)).take (k + m) ++ D ++ (Z.take k ++ Y ++ Z.drop (k + Y.length)).drop (k + m + D.length)).take (k + m + r) = P ++ Y ++ D := by
  have h1 : (Z.take k).length = k := by rw [List.length_take]; omega
  have h2 : (Z.take k ++ Y).length = k + m := by rw [List.length_append, h1, hY]
  have h3 : (Z.take k ++ Y ++ Z.drop (k + Y.length)).take (k + m) = Z.take k ++ Y := by rw [← h2]; exact List.take_left
  rw [h3, hP]
  have h4 : (P ++ Y ++ D).length = k + m + r := by rw [← hP, List.length_append, h2, hD]
  rw [← h4]
  exact List.take_left
theorem two_splices2 {α : Type} (Z P Y D : List α) (k m r : Nat) (hP : Z.take k = P) (hk : k ≤ Z.length) (hY : Y.length = m) (hD : D.length = r) (_ : k + m + r ≤ Z.length) :
    ((Z.take (k + m) ++ D ++ Z.drop (k + m + D.length)).take k ++ Y ++ (Z.take (k + m) ++ D ++ Z.drop (k + m + D.length)).drop (k + Y.length)).take (k + m + r) = P ++ Y ++ D := by
  have h0 : (Z.take (k + m)).length = k + m := by rw [List.length_take]; omega
  have h1 : (Z.take (k + m) ++ D ++ Z.drop (k + m + D.length)).take k = P := by
    rw [List.append_assoc, List.take_append_of_le_length (by omega), List.take_take, Nat.min_eq_left (by omega), hP]
  have h2 : (Z.take (k + m) ++ D ++ Z.drop (k + m + D.length)).drop (k + Y.length) = D ++ Z.drop (k + m + D.length) := by
    rw [hY, List.append_assoc]
    have e : k + m = (Z.take (k + m)).length := h0.symm
    conv => lhs; rw [e]
    rw [← e]
    exact List.drop_left' h0
  rw [h1, h2]
  have h4 : (P ++ Y ++ D).length = k + m + r := by
    rw [List.length_append, List.length_append, hY, hD, ← hP, List.length_take]; omega
  rw [← List.append_assoc, ← h4]
  exact List.take_left
theorem own_prefix {w : World} {base g cap n k : Nat} {e : TypeId} {sz : Nat} {L : List Value} (h : w.ownsRow base e sz (.slice (some ⟨g, 0, none⟩) n cap) n L) (hk : k ≤ n) : w.ownsRow base e sz (.slice (some ⟨g, 0, none⟩) k cap) k (L.take (k * sz)) := by
  have hle : k * sz ≤ n * sz := Nat.mul_le_mul_right sz hk
  refine ⟨by rw [List.length_take, h.1]; omega, ?_⟩
  rcases h.2 with ⟨h1, _⟩ | ⟨g', cap', cur, h1, h2, h3, h4, h5, h6, h7⟩
  · cases h1
  · injection h1 with h1a h1b h1c
    injection h1a with h1a
    injection h1a with h1a
    subst h1a h1c
    refine .inr ⟨g, cap, cur, rfl, h2, h3, by omega, h5, h6, ?_⟩
    rw [← h7, List.take_take, Nat.min_eq_left hle]
set_option maxRecDepth 20000 in
set_option maxHeartbeats 4000000 in
theorem Replace_end (base g cap gb k : Nat) (l : List Bx) (x y : Bx) (w : World) (ho : OwnBxs base w (.slice (some ⟨g, 0, none⟩) (k + 1) cap) l) (hl : l.length = k + 1) (hcap : k + 1 ≤ cap)
    (hb : Blk w gb 38 (bxC x ++ bxC y).toArray) (hbase : base ≤ w.heap.size) (hk : k ≤ 1000) (_ : cap ≤ 9223372036854775807) :
    Calls Tryz.prog 136 #[.slice (some ⟨g, 0, none⟩) (k + 1) cap, .int .i64 (k : Int), .int .i64 ((k : Int) + 1), .slice (some ⟨gb, 0, none⟩) 2 2] w fun e w' =>
      ∃ v, e = .returned v ∧ OwnBxs base w' v (l.take k ++ [x, y]) ∧ w.grownBy w' (some g) := by
  obtain ⟨ic, hic, hc0, hc1, hc2⟩ := info_parts info_box
  have hp : w.ownsRow base 38 8 (.slice (some ⟨g, 0, none⟩) k cap) k ((l.take k).flatMap bxC) := by
    have h1 : w.ownsRow base 38 8 (.slice (some ⟨g, 0, none⟩) (k + 1) cap) (k + 1) (l.flatMap bxC) := by
      have := ho
      unfold OwnBxs at this
      rwa [hl] at this
    rw [flat_take box_len]
    exact own_prefix h1 (by omega)
  have HP := Lib.hid hp
  have hnews : ∀ j u, (bxC x ++ bxC y)[j]? = some u → w.cell? ((⟨gb, 0, none⟩ : Addr).add j) = some u := by
    intro j u hj
    rw [add_none, hb.cell, ← hj]
    simp
  have HN := Lib.hid hnews
  have h1c : ∀ u ∈ bxC x ++ bxC y, u.oneCell' = true := by
    intro u hu
    rcases List.mem_append.1 hu with h | h
    · exact box_one x u h
    · exact box_one y u h
  have HO := Lib.hid h1c
  have hlen : (bxC x ++ bxC y).length = 2 * 8 := rfl
  have hb2 : ¬ (cap = k) := by omega
  clear ho hp hnews h1c hb
  go_enter Tryz.func136, Tryz.ntmps136
  go_wp2_with (at_builtin; go_loud (refine wpList_append_sl rfl (.tmp 32) (.tmp 33) 39 rfl base 38 ic _ 8 64 Tryz.underlying39 hic hc0 hc1 hc2 rfl (by decide) _ k _ rfl HP.out _ 2 2 _ rfl hlen (.inr ⟨_, rfl, HN.out⟩) HO.out (by unfold maxLen; omega) (by omega) hbase ?_))
  intro v' w' ho' hg' hne
  obtain ⟨g', cap', rfl, _, _⟩ := own_some ho' (fun h => by cases hne h)
  have HG := Lib.hid hg'
  have hres : OwnBxs base w' (.slice (some ⟨g', 0, none⟩) (k + 2) cap') (l.take k ++ [x, y]) := by
    refine OwnBxs.ofApp (r := [x, y]) rfl ?_
    rw [List.length_take, hl, Nat.min_eq_left (by omega)]
    exact ho'
  have HR := Lib.hid hres
  clear ho' hg' hne hres HP HN HO
  go_wp2_with fail
  go_ret
  exact ⟨_, rfl, HR.out, HG.out⟩
theorem grown_of_ext {w W : World} {g : Nat} (h : Ext w W) : w.grownBy W (some g) := ⟨h.os, h.tape, h.output, h.size, fun i hi _ => h.block i hi⟩
theorem grown_setRow {w W : World} {g : Nat} {cs : Array Value} (h : w.grownBy W (some g)) : w.grownBy (W.setRow g cs) (some g) :=
  ⟨h.os, h.tape, h.output, by simpa [World.setRow] using h.size, fun i hi hn => (setRow_other W g i cs (fun e => hn (by rw [e]))).trans (h.block i hi hn)⟩
theorem grown_setRow2 {w W : World} {g G : Nat} {cs : Array Value} (h : w.grownBy W (some g)) (hG : w.heap.size ≤ G) : w.grownBy (W.setRow G cs) (some g) :=
  ⟨h.os, h.tape, h.output, by simpa [World.setRow] using h.size, fun i hi hn => (setRow_other W G i cs (by omega)).trans (h.block i hi hn)⟩
theorem grown_ext2 {w W W' : World} {g : Nat} (h : w.grownBy W (some g)) (e : Ext W W') : w.grownBy W' (some g) :=
  ⟨e.os.trans h.os, e.tape.trans h.tape, e.output.trans h.output, Nat.le_trans h.size e.size, fun i hi hn => (e.block i (Nat.lt_of_lt_of_le hi h.size)).trans (h.block i hi hn)⟩
theorem run_size_box (w : World) : (Go.sizeOf 38).run Tryz.prog w = .ok 8 w := by
  obtain ⟨ic, hic, hc0, hc1, hc2⟩ := info_parts info_box
  simp [sizeOf, typeInfo, hic, hc1]
theorem box_sz : (Tryz.prog.info? 38).map (·.size) = some 8 := by kernel_rfl
set_option maxRecDepth 20000 in
set_option maxHeartbeats 4000000 in
theorem Replace_room (base g cap gb k r : Nat) (l : List Bx) (x y : Bx) (cur : Array Value) (w : World) (hg : Blk w g 38 cur) (hsz : cur.size = cap * 8) (htk : cur.toList.take ((k + 1 + (r + 1)) * 8) = l.flatMap bxC) (hl : l.length = k + 1 + (r + 1))
    (hcap : k + 1 + (r + 1) + 1 ≤ cap) (hb : Blk w gb 38 (bxC x ++ bxC y).toArray) (hne : gb ≠ g) (hcm : cap ≤ 9223372036854775807) (hbg : base ≤ g) :
    Calls Tryz.prog 136 #[.slice (some ⟨g, 0, none⟩) (k + 1 + (r + 1)) cap, .int .i64 (k : Int), .int .i64 ((k : Int) + 1), .slice (some ⟨gb, 0, none⟩) 2 2] w fun e w' =>
      ∃ v, e = .returned v ∧ OwnBxs base w' v (l.take k ++ x :: y :: l.drop (k + 1)) ∧ w.grownBy w' (some g) := by
  have hD : ((l.drop (k + 1)).flatMap bxC).length = (r + 1) * 8 := by rw [flat_len box_len, List.length_drop, hl]; congr 1; omega
  have hDe : (l.drop (k + 1)).flatMap bxC = (l.flatMap bxC).drop ((k + 1) * 8) := flat_drop box_len l (k + 1)
  have hPe : (l.take k).flatMap bxC = (l.flatMap bxC).take (k * 8) := flat_take box_len l k
  obtain ⟨D, hDd⟩ : ∃ D, D = (l.drop (k + 1)).flatMap bxC := ⟨_, rfl⟩
  obtain ⟨Y, hYd⟩ : ∃ Y, Y = bxC x ++ bxC y := ⟨_, rfl⟩
  have hYl : Y.length = 16 := by rw [hYd]; rfl
  rw [← hDd] at hD hDe
  rw [← hYd] at hb
  have hcl : cur.toList.length = cap * 8 := by simpa using hsz
  have hDo : ∀ u ∈ D, u.oneCell' = true := by rw [hDd]; exact flat_one box_one _
  have hYo : ∀ u ∈ Y, u.oneCell' = true := by
    rw [hYd]; intro u hu
    rcases List.mem_append.1 hu with h | h
    · exact box_one x u h
    · exact box_one y u h
  -- what the copies do
  obtain ⟨cur1, hcur1⟩ : ∃ c : Array Value, c = (cur.toList.take ((k + 2) * 8) ++ D ++ cur.toList.drop ((k + 2) * 8 + D.length)).toArray := ⟨_, rfl⟩
  have hDs : ∀ W, Ext w W → ∀ j v, D[j]? = some v → W.cell? ((⟨g, (k + 1) * 8, none⟩ : Addr).add j) = some v := by
    intro W hW j v hj
    rw [add_none, (hg.ext hW).cell ((k + 1) * 8 + j)]
    rw [hDe, List.getElem?_drop, ← htk, List.getElem?_take] at hj
    split at hj
    · simpa using hj
    · cases hj
  have hcp1 := fun W (hW : Ext w W) ty => run_copy_n (P := Tryz.prog) W 39 39 ty 38 8 g ((k + 2) * 8) (r + 1) (cap - (k + 2)) ⟨g, (k + 1) * 8, none⟩ (r + 1) (cap - (k + 1)) (r + 1) cur 38 D Tryz.underlying39 box_sz (hg.ext hW) (by simp) hD (hDs W hW) (by omega) hDo
  rw [← hcur1] at hcp1
  have hc1l : cur1.toList.length = cap * 8 := by
    rw [hcur1]
    simp only [List.length_append, List.length_take, List.length_drop, hcl, hD]
    omega
  have hcp2 := fun W (hW : Ext w W) ty dc => run_copy_n (P := Tryz.prog) (W.setRow g cur1) 39 39 ty 38 8 g (k * 8) (k + 2 + (r + 1) - k) dc ⟨gb, 0, none⟩ 2 2 2 cur1 38 Y Tryz.underlying39 box_sz (setRow_blk (hg.ext hW)) (by simp only [Nat.min_def]; split <;> omega) hYl (by
    intro j v hj
    have hb1 : Blk (W.setRow g cur1) gb 38 Y.toArray := (setRow_other _ _ _ _ hne).trans (hb.ext hW)
    rw [add_none, hb1.cell, ← hj]
    simp) (by rw [hYl]; have : cur1.size = cap * 8 := by simpa using hc1l
              omega) hYo
  have HCP1 := Lib.hid hcp1
  have HCP2 := Lib.hid hcp2
  have hov : ∀ W, Ext w W → ∀ lb cb, (callFunc 170 #[.slice (some ⟨g, (k + 2) * 8, none⟩) lb cb, .slice (some ⟨gb, 0, none⟩) 2 2]).run Tryz.prog W = .ok (.value (.bool false)) W := fun W hW lb cb => by
    have hgW := hg.ext hW
    have hbW := hb.ext hW
    have hsh1 : W.shape? g = some (38, cur.size) := by unfold Blk at hgW; simp [World.shape?, hgW]
    have hsh2 : W.shape? gb = some (38, 16) := by unfold Blk at hbW; simp [World.shape?, hbW, hYl]
    rw [run_callFunc_extern Tryz.func170 (by kernel_rfl) (by kernel_rfl) (by kernel_rfl) (e := Extern.SlicesOverlaps.overlaps #[39, 39] #[4]) (by kernel_rfl),
      Lib.run_overlaps_apart W 39 4 38 Tryz.underlying39 8 (fun W => run_size_box W) ⟨g, (k + 2) * 8, none⟩ ⟨gb, 0, none⟩ lb cb 2 2 (Ne.symm hne) 38 38 cur.size 16 hsh1 hsh2 (by decide) (hgW.frozen _) (hgW.frozen _)]
    rfl
  have HOV := Lib.hid hov
  have hfin : ∀ W, Ext w W → OwnBxs base ((W.setRow g cur1).setRow g (cur1.toList.take (k * 8) ++ Y ++ cur1.toList.drop (k * 8 + Y.length)).toArray) (.slice (some ⟨g, 0, none⟩) (k + 2 + (r + 1)) cap) (l.take k ++ x :: y :: l.drop (k + 1)) ∧ w.grownBy ((W.setRow g cur1).setRow g (cur1.toList.take (k * 8) ++ Y ++ cur1.toList.drop (k * 8 + Y.length)).toArray) (some g) := by
    intro W hW
    have hlen : (l.take k ++ x :: y :: l.drop (k + 1)).length = k + 1 + (r + 1) + 1 := by simp; omega
    have h1 := two_splices2 cur.toList (cur.toList.take (k * 8)) Y D (k * 8) 16 ((r + 1) * 8) rfl (by omega) hYl hD (by omega)
    have h2 : cur1.toList = cur.toList.take (k * 8 + 16) ++ D ++ cur.toList.drop (k * 8 + 16 + D.length) := by rw [hcur1, show (k + 2) * 8 = k * 8 + 16 by omega]
    have h3 : (cur1.toList.take (k * 8) ++ Y ++ cur1.toList.drop (k * 8 + Y.length)).take ((k + 1 + (r + 1) + 1) * 8) = (l.take k ++ x :: y :: l.drop (k + 1)).flatMap bxC := by
      rw [h2, show (k + 1 + (r + 1) + 1) * 8 = k * 8 + 16 + (r + 1) * 8 by omega, h1, List.flatMap_append, hPe, ← htk, List.take_take, Nat.min_eq_left (by omega), List.append_assoc, hYd, hDd]
      simp only [List.flatMap_cons, List.append_assoc]
    refine ⟨⟨by rw [hlen, flat_len box_len, hlen], .inr ⟨g, cap, (cur1.toList.take (k * 8) ++ Y ++ cur1.toList.drop (k * 8 + Y.length)).toArray, by rw [hlen, show k + 1 + (r + 1) + 1 = k + 2 + (r + 1) by omega], hbg, setRow_blk (setRow_blk (hg.ext hW)), by omega, by unfold maxLen; omega, ?_, by rw [hlen]; exact h3⟩⟩, ?_⟩
    · simp only [List.size_toArray, List.length_append, List.length_take, List.length_drop, hc1l, hYl]
      omega
    · exact grown_setRow (grown_setRow (grown_of_ext hW))
  have HF := Lib.hid hfin
  have z1 : ¬ cap = k := by omega
  have z2 : ¬ cap = k + 1 := by omega
  have z3 : ¬ cap = k + 2 := by omega
  have q1 : k ≤ cap := by omega
  have q2 : k + 1 ≤ k + 1 + (r + 1) := by omega
  have q3 : k + 1 ≤ cap := by omega
  have q4 : k + 2 ≤ cap := by omega
  have p1 : (0 : Int) ≤ (k : Int) + 1 := by omega
  have p3 : (0 : Int) ≤ (k : Int) + 2 := by omega
  have p4 : (k : Int) + 2 ≤ (k : Int) + 2 + ((r : Int) + 1) := by omega
  have p2 : (k : Int) + 1 ≤ (k : Int) + 1 + ((r : Int) + 1) := by omega
  clear hfin hov hcp1 hcp2 hg hb hc1l hcl hDo hYo hDs hDe hPe htk hcur1 hYd hDd
  go_enter Tryz.func136, Tryz.ntmps136
  go_wp2_with fail
  refine wp_region_text (by kernel_rfl) (by kernel_rfl) ?_
  (repeat' (first | (refine bl_off (by rfl) ?_; simp only [putX]) | (apply bl_op; rfl; (intro w1 h1; obtain ⟨hc, hf, hz⟩ := bcell h1; go_simp; (try go_bits); (first | exact ⟨rfl, Ext.refl _⟩)); simp only [putX]) | (refine bl_split rfl rfl (fun hx => ?_) (fun hx => ?_) <;> simp only [hx])))
  refine bl_nil ?_
  intro w9 h9
  obtain ⟨hc_w9, hf_w9, hz_w9⟩ := bcell h9; (try simp only [szA] at hz_w9); (try have := wz0 w w9); (try have := wz1 w w9); (try have := wz2 w w9); (try have := wz3 w w9); (try have := wz4 w w9)
  go_wp2_with fail
  have hov9 := HOV.out w9 ext_by
  go_wp2_with (simp only [hov9])
  refine wp_region_fin 9 (Ext _) (Stable.ext _) (Ext.drew (Ext.refl _)) (by kernel_rfl) (by kernel_rfl) ?_
  simp only [List.take_succ_cons, List.take_zero, pick1, List.drop_succ_cons, List.drop_zero]
  (repeat' (first | (refine bl_off (by rfl) ?_; simp only [putX]) | (apply bl_op; rfl; (intro w1 h1; obtain ⟨hc, hf, hz⟩ := bcell h1; go_simp; (try go_bits); (first | exact ⟨rfl, Ext.refl _⟩)); simp only [putX]) | (refine bl_split rfl rfl (fun hx => ?_) (fun hx => ?_) <;> simp only [hx])))
  refine bl_nil ?_
  intro w10 h10
  refine ⟨trivial, ?_⟩
  have E10 : Ext w w10 := ext_by
  refine runs_copy _ (.tmp 126) (.tmp 129) 39 39 rfl (.slice (some ⟨g, (k + 2) * 8, none⟩) (r + 1) (cap - (k + 2))) (.slice (some ⟨g, (k + 1) * 8, none⟩) (r + 1) (cap - (k + 1))) (by go_simp) (by go_simp) (HCP1.out w10 E10 _) ?_
  have hc2 := HCP2.out w10 E10 3 (cap - k)
  go_wp2_with (simp only [hc2, Result.andThen])
  go_ret
  have hf := HF.out w10 E10
  rw [hYl, List.append_assoc] at hf
  exact ⟨_, rfl, hf⟩
set_option maxRecDepth 20000 in
set_option maxHeartbeats 4000000 in
theorem Replace_grow (base g cap gb k r : Nat) (l : List Bx) (x y : Bx) (cur : Array Value) (w : World) (hg : Blk w g 38 cur) (hsz : cur.size = cap * 8) (htk : cur.toList.take ((k + 1 + (r + 1)) * 8) = l.flatMap bxC) (hl : l.length = k + 1 + (r + 1))
    (hcap : k + 1 + (r + 1) ≤ cap) (hcap2 : cap < k + 1 + (r + 1) + 1) (hb : Blk w gb 38 (bxC x ++ bxC y).toArray) (hsm : k + r ≤ 1000) (hbase : base ≤ w.heap.size) :
    Calls Tryz.prog 136 #[.slice (some ⟨g, 0, none⟩) (k + 1 + (r + 1)) cap, .int .i64 (k : Int), .int .i64 ((k : Int) + 1), .slice (some ⟨gb, 0, none⟩) 2 2] w fun e w' =>
      ∃ v, e = .returned v ∧ OwnBxs base w' v (l.take k ++ x :: y :: l.drop (k + 1)) ∧ w.grownBy w' (some g) := by
  obtain ⟨ic, hic, hc0, hc1, hc2⟩ := info_parts info_box
  have hD : ((l.drop (k + 1)).flatMap bxC).length = (r + 1) * 8 := by rw [flat_len box_len, List.length_drop, hl]; congr 1; omega
  have hDe : (l.drop (k + 1)).flatMap bxC = (l.flatMap bxC).drop ((k + 1) * 8) := flat_drop box_len l (k + 1)
  have hPe : (l.take k).flatMap bxC = (l.flatMap bxC).take (k * 8) := flat_take box_len l k
  obtain ⟨D, hDd⟩ : ∃ D, D = (l.drop (k + 1)).flatMap bxC := ⟨_, rfl⟩
  obtain ⟨Y, hYd⟩ : ∃ Y, Y = bxC x ++ bxC y := ⟨_, rfl⟩
  have hYl : Y.length = 16 := by rw [hYd]; rfl
  rw [← hDd] at hD hDe
  rw [← hYd] at hb
  have hcl : cur.toList.length = cap * 8 := by simpa using hsz
  have hDo : ∀ u ∈ D, u.oneCell' = true := by rw [hDd]; exact flat_one box_one _
  have hYo : ∀ u ∈ Y, u.oneCell' = true := by
    rw [hYd]; intro u hu
    rcases List.mem_append.1 hu with h | h
    · exact box_one x u h
    · exact box_one y u h
  obtain ⟨olds, holds⟩ : ∃ o, o = cur.toList.take (k * 8) := ⟨_, rfl⟩
  have hol : olds.length = k * 8 := by rw [holds, List.length_take]; omega
  -- the row that append makes
  have hfirst : ∀ W, Ext w W → (Builtin.firstCells ic.size k (.slice (some ⟨g, 0, none⟩) k cap)).run Tryz.prog W.drew = .ok olds.toArray W.drew := by
    intro W hW
    have h1 := run_loadCells_list (P := Tryz.prog) W.drew ⟨g, 0, none⟩ olds (fun j v hj => by
      rw [add_none, ((hg.ext hW).ext (Ext.drew (Ext.refl _))).cell, Nat.zero_add]
      rw [holds, List.getElem?_take] at hj
      split at hj
      · simpa using hj
      · cases hj)
    rw [hol] at h1
    simp [Builtin.firstCells, hc1, h1]
  have happ := fun W (hW : Ext w W) ty => Lib.run_append_grow_zeros (P := Tryz.prog) W 39 3 ty 38 ic _ .i64 .i64 Tryz.underlying39 Tryz.underlying3 hic hc0 (some ⟨g, 0, none⟩) k cap olds (hfirst W hW) (r + 3) (by omega) (by rw [hc1]; omega) (by omega) (by omega) (by rw [hc2]; omega) (growslice_fits (by omega) (by rw [hc2]; omega))
  have HAP := Lib.hid happ
  have z1 : ¬ cap = k := by omega
  have z2 : ¬ cap = k + 1 := by omega
  have q1 : k ≤ cap := by omega
  have q2 : k + 1 ≤ k + 1 + (r + 1) := by omega
  have q3 : k + 1 ≤ cap := by omega
  have p1 : (0 : Int) ≤ (k : Int) + 1 := by omega
  have p3 : (0 : Int) ≤ (k : Int) + 2 := by omega
  have p4 : (k : Int) + 2 ≤ (k : Int) + 2 + ((r : Int) + 1) := by omega
  have p2 : (k : Int) + 1 ≤ (k : Int) + 1 + ((r : Int) + 1) := by omega
  have hZ : ∀ W : World, ∃ (gc : Nat) (Z : Array Value), grownCap W (k + (r + 3)) cap 38 = gc ∧ k + (r + 3) ≤ gc ∧ gc ≤ 9223372036854775807 ∧ Z.toList.length = gc * 8 ∧ Z.toList.take (k * 8) = olds ∧
      (olds.toArray ++ Builtin.zeroCells (Value.agg #[.int .i64 0, .int .i64 0, .int .i64 0, .int .i64 0, .int .i64 0, .int .i64 0, .int .i64 0, .int .i64 0]).cells (r + 3) ++ Builtin.zeroCells (Value.agg #[.int .i64 0, .int .i64 0, .int .i64 0, .int .i64 0, .int .i64 0, .int .i64 0, .int .i64 0, .int .i64 0]).cells (grownCap W (k + (r + 3)) cap 38 - (k + (r + 3)))) = Z := by
    intro W
    have h1 := grownCap_ge W (k + (r + 3)) cap 38
    have h2 := grownCap_le_maxLen W (k + (r + 3)) cap 38 (by unfold maxLen; omega)
    have hM : maxLen = 9223372036854775807 := rfl
    rw [hM] at h2
    refine ⟨_, _, rfl, h1, h2, ?_, ?_, rfl⟩
    · have e : ∀ n, (Builtin.zeroCells (Value.agg #[.int .i64 0, .int .i64 0, .int .i64 0, .int .i64 0, .int .i64 0, .int .i64 0, .int .i64 0, .int .i64 0]).cells n).size = n * 8 := fun n => by rw [size_zeroCells]; rfl
      rw [Array.length_toList, Array.size_append, Array.size_append, e, e]
      have : olds.toArray.size = k * 8 := by simpa using hol
      omega
    · rw [Array.toList_append, Array.toList_append, List.append_assoc, ← hol]
      exact List.take_left
  have HZ := Lib.hid hZ
  have HF : Hid (∀ (W : World) (G gc : Nat) (Z : Array Value), Ext w W → Blk W G 38 Z → k + (r + 3) ≤ gc → gc ≤ 9223372036854775807 → Z.toList.length = gc * 8 → Z.toList.take (k * 8) = olds → w.heap.size ≤ G →
      ∃ c1 : Array Value, (∀ ty dc, (Builtin.copy_ #[39, 39] ty #[.slice (some ⟨G, k * 8, none⟩) (r + 3) dc, .slice (some ⟨gb, 0, none⟩) 2 2]).run Tryz.prog W = .ok (goInt ((2 : Nat) : Int)) (W.setRow G c1)) ∧
        ∀ W2, Ext (W.setRow G c1) W2 → ∃ c2 : Array Value, (∀ ty dc sc, (Builtin.copy_ #[39, 39] ty #[.slice (some ⟨G, (k + 2) * 8, none⟩) (k + (r + 3) - (k + 2)) dc, .slice (some ⟨g, (k + 1) * 8, none⟩) (r + 1) sc]).run Tryz.prog W2 = .ok (goInt ((r + 1 : Nat) : Int)) (W2.setRow G c2)) ∧
          OwnBxs base (W2.setRow G c2) (.slice (some ⟨G, 0, none⟩) (k + (r + 3)) gc) (l.take k ++ x :: y :: l.drop (k + 1)) ∧ w.grownBy (W2.setRow G c2) (some g)) := by
    intro W G gc Z hW hG h1 h2 h3 h4 h5
    have hgG : g ≠ G := by have := hg.lt; omega
    have hbG : gb ≠ G := by have := hb.lt; omega
    have hc1l : (Z.toList.take (k * 8) ++ Y ++ Z.toList.drop (k * 8 + Y.length)).length = gc * 8 := by
      simp only [List.length_append, List.length_take, List.length_drop, h3, hYl]
      omega
    refine ⟨(Z.toList.take (k * 8) ++ Y ++ Z.toList.drop (k * 8 + Y.length)).toArray, fun ty dc => ?_, fun W2 hW2 => ?_⟩
    · exact run_copy_n (P := Tryz.prog) W 39 39 ty 38 8 G (k * 8) (r + 3) dc ⟨gb, 0, none⟩ 2 2 2 Z 38 Y Tryz.underlying39 box_sz hG (by simp only [Nat.min_def]; split <;> omega) hYl (by
        intro j v hj
        rw [add_none, (hb.ext hW).cell, ← hj]
        simp) (by rw [hYl]; have : Z.size = gc * 8 := by simpa using h3
                  omega) hYo
    · have hG2 := (setRow_blk (cs := (Z.toList.take (k * 8) ++ Y ++ Z.toList.drop (k * 8 + Y.length)).toArray) hG).ext hW2
      have hg2 : Blk W2 g 38 cur := Blk.ext ((setRow_other _ _ _ _ hgG).trans (hg.ext hW)) hW2
      have hlen : (l.take k ++ x :: y :: l.drop (k + 1)).length = k + (r + 3) := by simp; omega
      refine ⟨_, fun ty dc sc => run_copy_n (P := Tryz.prog) W2 39 39 ty 38 8 G ((k + 2) * 8) (k + (r + 3) - (k + 2)) dc ⟨g, (k + 1) * 8, none⟩ (r + 1) sc (r + 1) _ 38 D Tryz.underlying39 box_sz hG2 (by simp only [Nat.min_def]; split <;> omega) hD (by
        intro j v hj
        rw [add_none, hg2.cell]
        rw [hDe, List.getElem?_drop, ← htk, List.getElem?_take] at hj
        split at hj
        · simpa using hj
        · cases hj) (by rw [hD, List.size_toArray, hc1l]; omega) hDo, ?_, ?_⟩
      · refine ⟨by rw [hlen, flat_len box_len, hlen], .inr ⟨G, gc, _, by rw [hlen], by omega, setRow_blk hG2, by omega, by unfold maxLen; omega, ?_, ?_⟩⟩
        · simp only [List.size_toArray, List.length_append, List.length_take, List.length_drop, hYl, h3, hD]
          omega
        · have e1 := two_splices Z.toList olds Y D (k * 8) 16 ((r + 1) * 8) h4 (by omega) hYl hD (by omega)
          rw [hlen]
          show (List.take ((k + 2) * 8) (Z.toList.take (k * 8) ++ Y ++ Z.toList.drop (k * 8 + Y.length)) ++ D ++ List.drop ((k + 2) * 8 + D.length) (Z.toList.take (k * 8) ++ Y ++ Z.toList.drop (k * 8 + Y.length))).take ((k + (r + 3)) * 8) = _
          rw [show (k + 2) * 8 = k * 8 + 16 by omega, show (k + (r + 3)) * 8 = k * 8 + 16 + (r + 1) * 8 by omega, e1, List.flatMap_append, hPe, ← htk, List.take_take, Nat.min_eq_left (by omega), holds, List.append_assoc, hYd, hDd]
          simp only [List.flatMap_cons, List.append_assoc]
      · refine grown_setRow2 ?_ h5
        exact grown_ext2 (grown_setRow2 (grown_of_ext hW) h5) hW2
  clear happ hZ hfirst hg hb hDo hYo hDe hPe htk hcl hYd hDd hD hYl hol holds
  go_enter Tryz.func136, Tryz.ntmps136
  go_wp2_with fail
  refine wp_region_text (by kernel_rfl) (by kernel_rfl) ?_
  (repeat' (first | (refine bl_off (by rfl) ?_; simp only [putX]) | (apply bl_op; rfl; (intro w1 h1; obtain ⟨hc, hf, hz⟩ := bcell h1; go_simp; (try go_bits); (first | exact ⟨rfl, Ext.refl _⟩)); simp only [putX]) | (refine bl_split rfl rfl (fun hx => ?_) (fun hx => ?_) <;> simp only [hx])))
  refine bl_nil ?_
  intro w9 h9
  have hap := HAP.out w9 h9 39
  obtain ⟨gc, Z, e1, e2, e3, e4, e5, e6⟩ := HZ.out w9
  rw [e6, e1] at hap
  obtain ⟨c1, f1, f2⟩ := HF.out (w9.alloc (.cells Z 38)).drew w9.heap.size gc Z (h9.alloc _).drew ((Blk.newAt rfl).ext (Ext.drew (Ext.refl _))) e2 e3 e4 e5 h9.size
  have HAP9 := Lib.hid hap
  have F1 := Lib.hid f1
  have F2 := Lib.hid f2
  clear hap f1 f2 e1 e4 e5 e6
  go_wp2_with (at_builtin; go_loud (refine Lib.wpList_append_run _ rfl (.tmp 63) (.tmp 66) 39 3 rfl _ _ rfl (congrArg (Value.int .i64) (by omega)) _ _ HAP9.out ?_))
  have hc1 := F1.out 3 (gc - k)
  have y1 : ¬ gc = k := by omega
  have y2 : ¬ gc = k + 2 := by omega
  have p5 : (k : Int) + 2 ≤ (k : Int) + ((r : Int) + 3) := by omega
  go_wp2_with (simp only [hc1, Result.andThen])
  refine wp_region_fin 9 (Ext _) (Stable.ext _) (Ext.drew (Ext.refl _)) (by kernel_rfl) (by kernel_rfl) ?_
  simp only [List.take_succ_cons, List.take_zero, pick1, List.drop_succ_cons, List.drop_zero]
  (repeat' (first | (refine bl_off (by rfl) ?_; simp only [putX]) | (apply bl_op; rfl; (intro w1 h1; obtain ⟨hc, hf, hz⟩ := bcell h1; go_simp; (try go_bits); (first | exact ⟨rfl, Ext.refl _⟩)); simp only [putX]) | (refine bl_split rfl rfl (fun hx => ?_) (fun hx => ?_) <;> simp only [hx])))
  refine bl_nil ?_
  intro w10 h10
  refine ⟨trivial, ?_⟩
  obtain ⟨c2, f3, f4, f5⟩ := F2.out w10 h10
  refine runs_copy _ (.tmp 78) (.tmp 81) 39 39 rfl (.slice (some ⟨w9.heap.size, (k + 2) * 8, none⟩) (k + (r + 3) - (k + 2)) (gc - (k + 2))) (.slice (some ⟨g, (k + 1) * 8, none⟩) (r + 1) (cap - (k + 1))) (by go_simp) (by go_simp) (f3 _ _ _) ?_
  have HF4 := Lib.hid f4
  have HF5 := Lib.hid f5
  clear f3 f4 f5
  go_wp2_with fail
  go_ret
  exact ⟨_, rfl, HF4.out, HF5.out⟩
theorem Replace_c (base k : Nat) (v : Value) (l : List Bx) (x y : Bx) (gb : Nat) (w : World) (ho : OwnBxs base w v l) (hk : k < l.length) (hsm : l.length ≤ 600) (hb : Blk w gb 38 (bxC x ++ bxC y).toArray) (hgb : gb < base) (hbase : base ≤ w.heap.size) :
    Calls Tryz.prog 136 #[v, .int .i64 (k : Int), .int .i64 ((k : Int) + 1), .slice (some ⟨gb, 0, none⟩) 2 2] w fun e w' =>
      ∃ v', e = .returned v' ∧ OwnBxs base w' v' (l.take k ++ x :: y :: l.drop (k + 1)) ∧ ∀ w0, base = w0.heap.size → Ext w0 w → Ext w0 w' := by
  obtain ⟨hlen, h⟩ := ho
  rcases h with ⟨_, h0⟩ | ⟨g, cap, cur, rfl, hbg, hg, hnc, hcm, hcs, htk⟩
  · omega
  have hM : maxLen = 9223372036854775807 := rfl
  rw [hM] at hcm
  have hext : ∀ w', w.grownBy w' (some g) → ∀ w0, base = w0.heap.size → Ext w0 w → Ext w0 w' := fun w' hw w0 h1 h2 => grown_ext h2 hw (fun j hj => by injection hj with hj; omega)
  rcases (show l.length = k + 1 ∨ ∃ r, l.length = k + 1 + (r + 1) by
    rcases Nat.lt_or_ge (k + 1) l.length with h | h
    · exact .inr ⟨l.length - k - 2, by omega⟩
    · exact .inl (by omega)) with hl | ⟨r, hl⟩
  · rw [hl] at hnc ⊢
    refine (Replace_end base g cap gb k l x y w ⟨hlen, .inr ⟨g, cap, cur, by rw [hl], hbg, hg, by omega, by rw [hM]; omega, hcs, htk⟩⟩ hl hnc hb hbase (by omega) hcm).mono ?_
    rintro e w' ⟨v', he, h1, h2⟩
    refine ⟨v', he, ?_, hext w' h2⟩
    rw [List.drop_of_length_le (by omega)]
    exact h1
  · rw [hl] at hnc htk ⊢
    rcases Nat.lt_or_ge cap (k + 1 + (r + 1) + 1) with hc | hc
    · refine (Replace_grow base g cap gb k r l x y cur w hg hcs htk hl hnc hc hb (by omega) hbase).mono ?_
      rintro e w' ⟨v', he, h1, h2⟩
      exact ⟨v', he, h1, hext w' h2⟩
    · refine (Replace_room base g cap gb k r l x y cur w hg hcs htk hl hc hb (by omega) hcm hbg).mono ?_
      rintro e w' ⟨v', he, h1, h2⟩
      exact ⟨v', he, h1, hext w' h2⟩
end Go.Proofs.YtfniicgoeljmdaaGreat
