/- copy of elements of several cells. No condition. A box in a list of boxes is replaced by two. No condition. slices.DeleteFunc at boxes, on a list that the call owns. No condition. A set that sights of a tick filter: the program. No condition. -/
import Derived.Test.YtfniicgoeljmdaaGreatOwnBoxes
import Derived.Laws.CopyRow
import Derived.Laws.CopyOwn
import Derived.Laws.Externs
import Derived.Lib.AppendZerosOnto
import Derived.Lib.Overlaps
import Derived.Test.YtfniicgoeljmdaaGreatNameW
import Derived.Test.YtfniicgoeljmdaaGreatCone
import Derived.Test.YtfniicgoeljmdaaGreatForcePull
import Derived.Test.YtfniicgoeljmdaaGreatOutLaw
import Derived.Test.YtfniicgoeljmdaaGreatBig
namespace Go.Proofs.YtfniicgoeljmdaaGreat
open Go.RowKit

theorem run_copy_n {P : Program} (w : World) (dT sT ty elem : TypeId) (sz g o dLen dCap : Nat) (a : Addr) (sLen sCap m : Nat) (cur : Array Value) (t : TypeId) (cs : List Value)
    (hu : P.underlying dT = some (.slice elem)) (hs : (P.info? elem).map (·.size) = some sz)
    (hg : w.heap[g]? = some (.cells cur t (0, 0))) (hm : m = Nat.min sLen dLen) (hn : cs.length = m * sz)
    (hsrc : ∀ j v, cs[j]? = some v → w.cell? (a.add j) = some v) (hfit : o + cs.length ≤ cur.size) (h1 : ∀ v ∈ cs, v.oneCell' = true) :
    (Builtin.copy_ #[dT, sT] ty #[.slice (some ⟨g, o, none⟩) dLen dCap, .slice (some a) sLen sCap]).run P w =
      .ok (goInt m) (w.setRow g (cur.toList.take o ++ cs ++ cur.toList.drop (o + cs.length)).toArray) := by
  have hl := run_loadCells_list (P := P) w a cs hsrc
  have hst := run_storeCells_at P g o t cs 0 cur w hg (by simpa using hfit) h1
  subst hm
  cases hq : P.info? elem with
  | none => simp [hq] at hs
  | some i =>
    have hi : i.size = sz := by simpa [hq] using hs
    simp [Builtin.copy_, run_underlying hu, Builtin.lenOf, Builtin.firstCells, sizeOf, typeInfo, hq, hi, ← hn, hl, hst]
theorem setRow_blk {w : World} {g : Nat} {t : TypeId} {cur cs : Array Value} (h : Blk w g t cur) : Blk (w.setRow g cs) g t cs := setRow_heap w g cur cs t _ h
theorem setRow_ext {w0 w : World} {g : Nat} {cs : Array Value} (h : Ext w0 w) (hg : w0.heap.size ≤ g) : Ext w0 (w.setRow g cs) :=
  below_setRow h hg cs
section
variable {P : Program}
theorem runs_copy (w : World) {o : Oper} {a : Act} {G : Value → World → Prop} (d s : Operand) (t t' : TypeId)
    (ho : o.op = .call { callee := .builtin .copy, args := #[d, s], argTypes := #[t, t'] }) (v u : Value) (hd : a.eval d = v) (hs : a.eval s = u) {v' : Value} {w' : World}
    (hr : (Builtin.copy_ #[t, t'] o.type #[v, u]).run P w = .ok v' w') (h : G v' w') : RunsTo P G ((execOp a.eval o).run P w) := by
  simp [execOp, ho, resolve, invoke, builtin, hd, hs, hr, Result.andThen, RunsTo]
  exact h
end
theorem flat_take {α : Type} {sz : Nat} {E : α → List Value} (hE : ∀ x, (E x).length = sz) : ∀ (l : List α) (k : Nat), (l.take k).flatMap E = (l.flatMap E).take (k * sz)
  | [], k => by simp
  | a :: r, 0 => by simp
  | a :: r, k + 1 => by
    simp only [List.take_succ_cons, List.flatMap_cons]
    rw [flat_take hE r k, List.take_append, hE, show (k + 1) * sz - sz = k * sz by rw [Nat.succ_mul]; omega, List.take_of_length_le (l := E a) (by rw [hE, Nat.succ_mul]; omega)]
theorem flat_drop {α : Type} {sz : Nat} {E : α → List Value} (hE : ∀ x, (E x).length = sz) : ∀ (l : List α) (k : Nat), (l.drop k).flatMap E = (l.flatMap E).drop (k * sz)
  | [], k => by simp
  | a :: r, 0 => by simp
  | a :: r, k + 1 => by
    simp only [List.drop_succ_cons, List.flatMap_cons]
    rw [flat_drop hE r k, List.drop_append, hE, show (k + 1) * sz - sz = k * sz by rw [Nat.succ_mul]; omega, List.drop_of_length_le (l := E a) (by rw [hE, Nat.succ_mul]; omega)]
    simp
end Go.Proofs.YtfniicgoeljmdaaGreat

namespace Go.Proofs.YtfniicgoeljmdaaGreat
open Go.RowKit

theorem wp_region_fin {P : Program} {Q : Exit → Act → World → Prop} {id : Nat} {l : List Oper} (n : Nat) (S : World → Prop) {a : Act} {w : World} (hst : Stable S) (hS : S w.drew) (hm : P.follows .mixedOrders = true) (hok : lastOk l.toArray n = true)
    (h : BL P l.toArray S (l.take n) a (fun a' => ∀ w', S w' → (pick1 l n).guard = none ∧ RunsTo P (fun v w1 => Q .normal (a'.put (pick1 l n).dst v) w1) ((execOp a'.eval (pick1 l n)).run P w'))) : (Code.region id l.toArray true).wp P Q a w := by
  rw [pick1_eq] at h
  exact wp_region_last n S hst hS hm hok h
theorem two_splices {α : Type} (Z P Y D : List α) (k m r : Nat) (hP : Z.take k = P) (hk : k ≤ Z.length) (hY : Y.length = m) (hD : D.length = r) (_ : k + m + r ≤ Z.length) :
    ((Z.take k ++ Y ++ Z.drop (k + Y.length)).take (k + m) ++ D ++ (Z.take k ++ Y ++ Z.drop (k + Y.length)).drop (k + m + D.length)).take (k + m + r) = P ++ Y ++ D := by
  have h1 : (Z.take k).length = k := by rw [List.length_take]; omega
  have h2 : (Z.take k ++ Y).length = k + m := by rw [List.length_append, h1, hY]
  have h3 : (Z.take k ++ Y ++ Z.drop (k + Y.length)).take (k + m) = Z.take k ++ Y := by rw [← h2]; exact List.take_left
  rw [h3, hP]
  have h4 : (P ++ Y ++ D).length = k + m + r := by rw [← hP, List.length_append, h2, hD]
  rw [← h4]
  exact List.take_left
theorem two_splices2 {α : Type} (Z P Y D : List α) (k m r : Nat) (hP : Z.take k = P) (hk : k ≤ Z.length) (hY : Y.length = m) (hD : D.length = r) (_ : k + m + r ≤ Z.length) :
    ((Z.take (k + m) ++ D ++ Z.drop (k + m + D.length)).take k ++ Y ++ (Z.take (k + m) ++ D ++ Z.drop (k + m + D.length)).drop (k + Y.length)).take (k + m + r) = P ++ Y ++ D := by
  have h0 : (Z.take (k + m)).length = k + m := by rw [List.length_take]; omega
  have h1 : (Z.take (k + m) ++ D ++ Z.drop (k + m + D.length)).take k = P := by
    rw [List.append_assoc, List.take_append_of_le_length (by omega), List.take_take, Nat.min_eq_left (by omega), hP]
  have h2 : (Z.take (k + m) ++ D ++ Z.drop (k + m + D.length)).drop (k + Y.length) = D ++ Z.drop (k + m + D.length) := by
    rw [hY, List.append_assoc]
    have e : k + m = (Z.take (k + m)).length := h0.symm
    conv => lhs; rw [e]
    rw [← e]
    exact List.drop_left' h0
  rw [h1, h2]
  have h4 : (P ++ Y ++ D).length = k + m + r := by
    rw [List.length_append, List.length_append, hY, hD, ← hP, List.length_take]; omega
  rw [← List.append_assoc, ← h4]
  exact List.take_left
theorem own_prefix {w : World} {base g cap n k : Nat} {e : TypeId} {sz : Nat} {L : List Value} (h : w.ownsRow base e sz (.slice (some ⟨g, 0, none⟩) n cap) n L) (hk : k ≤ n) : w.ownsRow base e sz (.slice (some ⟨g, 0, none⟩) k cap) k (L.take (k * sz)) := by
  have hle : k * sz ≤ n * sz := Nat.mul_le_mul_right sz hk
  refine ⟨by rw [List.length_take, h.1]; omega, ?_⟩
  rcases h.2 with ⟨h1, _⟩ | ⟨g', cap', cur, h1, h2, h3, h4, h5, h6, h7⟩
  · cases h1
  · injection h1 with h1a h1b h1c
    injection h1a with h1a
    injection h1a with h1a
    subst h1a h1c
    refine .inr ⟨g, cap, cur, rfl, h2, h3, by omega, h5, h6, ?_⟩
    rw [← h7, List.take_take, Nat.min_eq_left hle]
set_option maxRecDepth 20000 in
set_option maxHeartbeats 4000000 in
theorem Replace_end (base g cap gb k : Nat) (l : List Bx) (x y : Bx) (w : World) (ho : OwnBxs base w (.slice (some ⟨g, 0, none⟩) (k + 1) cap) l) (hl : l.length = k + 1) (hcap : k + 1 ≤ cap)
    (hb : Blk w gb 38 (bxC x ++ bxC y).toArray) (hbase : base ≤ w.heap.size) (hk : k ≤ 1000) (_ : cap ≤ 9223372036854775807) :
    Calls Tryz.prog 136 #[.slice (some ⟨g, 0, none⟩) (k + 1) cap, .int .i64 (k : Int), .int .i64 ((k : Int) + 1), .slice (some ⟨gb, 0, none⟩) 2 2] w fun e w' =>
      ∃ v, e = .returned v ∧ OwnBxs base w' v (l.take k ++ [x, y]) ∧ w.grownBy w' (some g) := by
  obtain ⟨ic, hic, hc0, hc1, hc2⟩ := info_parts info_box
  have hp : w.ownsRow base 38 8 (.slice (some ⟨g, 0, none⟩) k cap) k ((l.take k).flatMap bxC) := by
    have h1 : w.ownsRow base 38 8 (.slice (some ⟨g, 0, none⟩) (k + 1) cap) (k + 1) (l.flatMap bxC) := by
      have := ho
      unfold OwnBxs at this
      rwa [hl] at this
    rw [flat_take box_len]
    exact own_prefix h1 (by omega)
  have HP := Lib.hid hp
  have hnews : ∀ j u, (bxC x ++ bxC y)[j]? = some u → w.cell? ((⟨gb, 0, none⟩ : Addr).add j) = some u := by
    intro j u hj
    rw [add_none, hb.cell, ← hj]
    simp
  have HN := Lib.hid hnews
  have h1c : ∀ u ∈ bxC x ++ bxC y, u.oneCell' = true := by
    intro u hu
    rcases List.mem_append.1 hu with h | h
    · exact box_one x u h
    · exact box_one y u h
  have HO := Lib.hid h1c
  have hlen : (bxC x ++ bxC y).length = 2 * 8 := rfl
  have hb2 : ¬ (cap = k) := by omega
  clear ho hp hnews h1c hb
  go_enter Tryz.func136, Tryz.ntmps136
  go_wp2_with (at_builtin; go_loud (refine wpList_append_sl rfl (.tmp 32) (.tmp 33) 39 rfl base 38 ic _ 8 64 Tryz.underlying39 hic hc0 hc1 hc2 rfl (by decide) _ k _ rfl HP.out _ 2 2 _ rfl hlen (.inr ⟨_, rfl, HN.out⟩) HO.out (by unfold maxLen; omega) (by omega) hbase ?_))
  intro v' w' ho' hg' hne
  obtain ⟨g', cap', rfl, _, _⟩ := own_some ho' (fun h => by cases hne h)
  have HG := Lib.hid hg'
  have hres : OwnBxs base w' (.slice (some ⟨g', 0, none⟩) (k + 2) cap') (l.take k ++ [x, y]) := by
    refine OwnBxs.ofApp (r := [x, y]) rfl ?_
    rw [List.length_take, hl, Nat.min_eq_left (by omega)]
    exact ho'
  have HR := Lib.hid hres
  clear ho' hg' hne hres HP HN HO
  go_wp2_with fail
  go_ret
  exact ⟨_, rfl, HR.out, HG.out⟩
theorem grown_of_ext {w W : World} {g : Nat} (h : Ext w W) : w.grownBy W (some g) := ⟨h.os, h.tape, h.output, h.size, fun i hi _ => h.block i hi⟩
theorem grown_setRow {w W : World} {g : Nat} {cs : Array Value} (h : w.grownBy W (some g)) : w.grownBy (W.setRow g cs) (some g) :=
  ⟨h.os, h.tape, h.output, by simpa [World.setRow] using h.size, fun i hi hn => (setRow_other W g i cs (fun e => hn (by rw [e]))).trans (h.block i hi hn)⟩
theorem grown_setRow2 {w W : World} {g G : Nat} {cs : Array Value} (h : w.grownBy W (some g)) (hG : w.heap.size ≤ G) : w.grownBy (W.setRow G cs) (some g) :=
  ⟨h.os, h.tape, h.output, by simpa [World.setRow] using h.size, fun i hi hn => (setRow_other W G i cs (by omega)).trans (h.block i hi hn)⟩
theorem grown_ext2 {w W W' : World} {g : Nat} (h : w.grownBy W (some g)) (e : Ext W W') : w.grownBy W' (some g) :=
  ⟨e.os.trans h.os, e.tape.trans h.tape, e.output.trans h.output, Nat.le_trans h.size e.size, fun i hi hn => (e.block i (Nat.lt_of_lt_of_le hi h.size)).trans (h.block i hi hn)⟩
theorem run_size_box (w : World) : (Go.sizeOf 38).run Tryz.prog w = .ok 8 w := by
  obtain ⟨ic, hic, hc0, hc1, hc2⟩ := info_parts info_box
  simp [sizeOf, typeInfo, hic, hc1]
theorem box_sz : (Tryz.prog.info? 38).map (·.size) = some 8 := by kernel_rfl
set_option maxRecDepth 20000 in
set_option maxHeartbeats 4000000 in
theorem Replace_room (base g cap gb k r : Nat) (l : List Bx) (x y : Bx) (cur : Array Value) (w : World) (hg : Blk w g 38 cur) (hsz : cur.size = cap * 8) (htk : cur.toList.take ((k + 1 + (r + 1)) * 8) = l.flatMap bxC) (hl : l.length = k + 1 + (r + 1))
    (hcap : k + 1 + (r + 1) + 1 ≤ cap) (hb : Blk w gb 38 (bxC x ++ bxC y).toArray) (hne : gb ≠ g) (hcm : cap ≤ 9223372036854775807) (hbg : base ≤ g) :
    Calls Tryz.prog 136 #[.slice (some ⟨g, 0, none⟩) (k + 1 + (r + 1)) cap, .int .i64 (k : Int), .int .i64 ((k : Int) + 1), .slice (some ⟨gb, 0, none⟩) 2 2] w fun e w' =>
      ∃ v, e = .returned v ∧ OwnBxs base w' v (l.take k ++ x :: y :: l.drop (k + 1)) ∧ w.grownBy w' (some g) := by
  have hD : ((l.drop (k + 1)).flatMap bxC).length = (r + 1) * 8 := by rw [flat_len box_len, List.length_drop, hl]; congr 1; omega
  have hDe : (l.drop (k + 1)).flatMap bxC = (l.flatMap bxC).drop ((k + 1) * 8) := flat_drop box_len l (k + 1)
  have hPe : (l.take k).flatMap bxC = (l.flatMap bxC).take (k * 8) := flat_take box_len l k
  obtain ⟨D, hDd⟩ : ∃ D, D = (l.drop (k + 1)).flatMap bxC := ⟨_, rfl⟩
  obtain ⟨Y, hYd⟩ : ∃ Y, Y = bxC x ++ bxC y := ⟨_, rfl⟩
  have hYl : Y.length = 16 := by rw [hYd]; rfl
  rw [← hDd] at hD hDe
  rw [← hYd] at hb
  have hcl : cur.toList.length = cap * 8 := by simpa using hsz
  have hDo : ∀ u ∈ D, u.oneCell' = true := by rw [hDd]; exact flat_one box_one _
  have hYo : ∀ u ∈ Y, u.oneCell' = true := by
    rw [hYd]; intro u hu
    rcases List.mem_append.1 hu with h | h
    · exact box_one x u h
    · exact box_one y u h
  -- what the copies do
  obtain ⟨cur1, hcur1⟩ : ∃ c : Array Value, c = (cur.toList.take ((k + 2) * 8) ++ D ++ cur.toList.drop ((k + 2) * 8 + D.length)).toArray := ⟨_, rfl⟩
  have hDs : ∀ W, Ext w W → ∀ j v, D[j]? = some v → W.cell? ((⟨g, (k + 1) * 8, none⟩ : Addr).add j) = some v := by
    intro W hW j v hj
    rw [add_none, (hg.ext hW).cell ((k + 1) * 8 + j)]
    rw [hDe, List.getElem?_drop, ← htk, List.getElem?_take] at hj
    split at hj
    · simpa using hj
    · cases hj
  have hcp1 := fun W (hW : Ext w W) ty => run_copy_n (P := Tryz.prog) W 39 39 ty 38 8 g ((k + 2) * 8) (r + 1) (cap - (k + 2)) ⟨g, (k + 1) * 8, none⟩ (r + 1) (cap - (k + 1)) (r + 1) cur 38 D Tryz.underlying39 box_sz (hg.ext hW) (by simp) hD (hDs W hW) (by omega) hDo
  rw [← hcur1] at hcp1
  have hc1l : cur1.toList.length = cap * 8 := by
    rw [hcur1]
    simp only [List.length_append, List.length_take, List.length_drop, hcl, hD]
    omega
  have hcp2 := fun W (hW : Ext w W) ty dc => run_copy_n (P := Tryz.prog) (W.setRow g cur1) 39 39 ty 38 8 g (k * 8) (k + 2 + (r + 1) - k) dc ⟨gb, 0, none⟩ 2 2 2 cur1 38 Y Tryz.underlying39 box_sz (setRow_blk (hg.ext hW)) (by simp only [Nat.min_def]; split <;> omega) hYl (by
    intro j v hj
    have hb1 : Blk (W.setRow g cur1) gb 38 Y.toArray := (setRow_other _ _ _ _ hne).trans (hb.ext hW)
    rw [add_none, hb1.cell, ← hj]
    simp) (by rw [hYl]; have : cur1.size = cap * 8 := by simpa using hc1l
              omega) hYo
  have HCP1 := Lib.hid hcp1
  have HCP2 := Lib.hid hcp2
  have hov : ∀ W, Ext w W → ∀ lb cb, (callFunc 170 #[.slice (some ⟨g, (k + 2) * 8, none⟩) lb cb, .slice (some ⟨gb, 0, none⟩) 2 2]).run Tryz.prog W = .ok (.value (.bool false)) W := fun W hW lb cb => by
    have hgW := hg.ext hW
    have hbW := hb.ext hW
    have hsh1 : W.shape? g = some (38, cur.size) := by unfold Blk at hgW; simp [World.shape?, hgW]
    have hsh2 : W.shape? gb = some (38, 16) := by unfold Blk at hbW; simp [World.shape?, hbW, hYl]
    rw [run_callFunc_extern Tryz.func170 (by kernel_rfl) (by kernel_rfl) (by kernel_rfl) (e := Extern.SlicesOverlaps.overlaps #[39, 39] #[4]) (by kernel_rfl),
      Lib.run_overlaps_apart W 39 4 38 Tryz.underlying39 8 (fun W => run_size_box W) ⟨g, (k + 2) * 8, none⟩ ⟨gb, 0, none⟩ lb cb 2 2 (Ne.symm hne) 38 38 cur.size 16 hsh1 hsh2 (by decide) (hgW.frozen _) (hgW.frozen _)]
    rfl
  have HOV := Lib.hid hov
  have hfin : ∀ W, Ext w W → OwnBxs base ((W.setRow g cur1).setRow g (cur1.toList.take (k * 8) ++ Y ++ cur1.toList.drop (k * 8 + Y.length)).toArray) (.slice (some ⟨g, 0, none⟩) (k + 2 + (r + 1)) cap) (l.take k ++ x :: y :: l.drop (k + 1)) ∧ w.grownBy ((W.setRow g cur1).setRow g (cur1.toList.take (k * 8) ++ Y ++ cur1.toList.drop (k * 8 + Y.length)).toArray) (some g) := by
    intro W hW
    have hlen : (l.take k ++ x :: y :: l.drop (k + 1)).length = k + 1 + (r + 1) + 1 := by simp; omega
    have h1 := two_splices2 cur.toList (cur.toList.take (k * 8)) Y D (k * 8) 16 ((r + 1) * 8) rfl (by omega) hYl hD (by omega)
    have h2 : cur1.toList = cur.toList.take (k * 8 + 16) ++ D ++ cur.toList.drop (k * 8 + 16 + D.length) := by rw [hcur1, show (k + 2) * 8 = k * 8 + 16 by omega]
    have h3 : (cur1.toList.take (k * 8) ++ Y ++ cur1.toList.drop (k * 8 + Y.length)).take ((k + 1 + (r + 1) + 1) * 8) = (l.take k ++ x :: y :: l.drop (k + 1)).flatMap bxC := by
      rw [h2, show (k + 1 + (r + 1) + 1) * 8 = k * 8 + 16 + (r + 1) * 8 by omega, h1, List.flatMap_append, hPe, ← htk, List.take_take, Nat.min_eq_left (by omega), List.append_assoc, hYd, hDd]
      simp only [List.flatMap_cons, List.append_assoc]
    refine ⟨⟨by rw [hlen, flat_len box_len, hlen], .inr ⟨g, cap, (cur1.toList.take (k * 8) ++ Y ++ cur1.toList.drop (k * 8 + Y.length)).toArray, by rw [hlen, show k + 1 + (r + 1) + 1 = k + 2 + (r + 1) by omega], hbg, setRow_blk (setRow_blk (hg.ext hW)), by omega, by unfold maxLen; omega, ?_, by rw [hlen]; exact h3⟩⟩, ?_⟩
    · simp only [List.size_toArray, List.length_append, List.length_take, List.length_drop, hc1l, hYl]
      omega
    · exact grown_setRow (grown_setRow (grown_of_ext hW))
  have HF := Lib.hid hfin
  have z1 : ¬ cap = k := by omega
  have z2 : ¬ cap = k + 1 := by omega
  have z3 : ¬ cap = k + 2 := by omega
  have q1 : k ≤ cap := by omega
  have q2 : k + 1 ≤ k + 1 + (r + 1) := by omega
  have q3 : k + 1 ≤ cap := by omega
  have q4 : k + 2 ≤ cap := by omega
  have p1 : (0 : Int) ≤ (k : Int) + 1 := by omega
  have p3 : (0 : Int) ≤ (k : Int) + 2 := by omega
  have p4 : (k : Int) + 2 ≤ (k : Int) + 2 + ((r : Int) + 1) := by omega
  have p2 : (k : Int) + 1 ≤ (k : Int) + 1 + ((r : Int) + 1) := by omega
  clear hfin hov hcp1 hcp2 hg hb hc1l hcl hDo hYo hDs hDe hPe htk hcur1 hYd hDd
  go_enter Tryz.func136, Tryz.ntmps136
  go_wp2_with fail
  refine wp_region_text (by kernel_rfl) (by kernel_rfl) ?_
  (repeat' (first | (refine bl_off (by rfl) ?_; simp only [putX]) | (apply bl_op; rfl; (intro w1 h1; obtain ⟨hc, hf, hz⟩ := bcell h1; go_simp; (try go_bits); (first | exact ⟨rfl, Ext.refl _⟩)); simp only [putX]) | (refine bl_split rfl rfl (fun hx => ?_) (fun hx => ?_) <;> simp only [hx])))
  refine bl_nil ?_
  intro w9 h9
  obtain ⟨hc_w9, hf_w9, hz_w9⟩ := bcell h9; (try simp only [szA] at hz_w9); (try have := wz0 w w9); (try have := wz1 w w9); (try have := wz2 w w9); (try have := wz3 w w9); (try have := wz4 w w9)
  go_wp2_with fail
  have hov9 := HOV.out w9 ext_by
  go_wp2_with (simp only [hov9])
  refine wp_region_fin 9 (Ext _) (Stable.ext _) (Ext.drew (Ext.refl _)) (by kernel_rfl) (by kernel_rfl) ?_
  simp only [List.take_succ_cons, List.take_zero, pick1, List.drop_succ_cons, List.drop_zero]
  (repeat' (first | (refine bl_off (by rfl) ?_; simp only [putX]) | (apply bl_op; rfl; (intro w1 h1; obtain ⟨hc, hf, hz⟩ := bcell h1; go_simp; (try go_bits); (first | exact ⟨rfl, Ext.refl _⟩)); simp only [putX]) | (refine bl_split rfl rfl (fun hx => ?_) (fun hx => ?_) <;> simp only [hx])))
  refine bl_nil ?_
  intro w10 h10
  refine ⟨trivial, ?_⟩
  have E10 : Ext w w10 := ext_by
  refine runs_copy _ (.tmp 126) (.tmp 129) 39 39 rfl (.slice (some ⟨g, (k + 2) * 8, none⟩) (r + 1) (cap - (k + 2))) (.slice (some ⟨g, (k + 1) * 8, none⟩) (r + 1) (cap - (k + 1))) (by go_simp) (by go_simp) (HCP1.out w10 E10 _) ?_
  have hc2 := HCP2.out w10 E10 3 (cap - k)
  go_wp2_with (simp only [hc2, Result.andThen])
  go_ret
  have hf := HF.out w10 E10
  rw [hYl, List.append_assoc] at hf
  exact ⟨_, rfl, hf⟩
set_option maxRecDepth 20000 in
set_option maxHeartbeats 4000000 in
theorem Replace_grow (base g cap gb k r : Nat) (l : List Bx) (x y : Bx) (cur : Array Value) (w : World) (hg : Blk w g 38 cur) (hsz : cur.size = cap * 8) (htk : cur.toList.take ((k + 1 + (r + 1)) * 8) = l.flatMap bxC) (hl : l.length = k + 1 + (r + 1))
    (hcap : k + 1 + (r + 1) ≤ cap) (hcap2 : cap < k + 1 + (r + 1) + 1) (hb : Blk w gb 38 (bxC x ++ bxC y).toArray) (hsm : k + r ≤ 1000) (hbase : base ≤ w.heap.size) :
    Calls Tryz.prog 136 #[.slice (some ⟨g, 0, none⟩) (k + 1 + (r + 1)) cap, .int .i64 (k : Int), .int .i64 ((k : Int) + 1), .slice (some ⟨gb, 0, none⟩) 2 2] w fun e w' =>
      ∃ v, e = .returned v ∧ OwnBxs base w' v (l.take k ++ x :: y :: l.drop (k + 1)) ∧ w.grownBy w' (some g) := by
  obtain ⟨ic, hic, hc0, hc1, hc2⟩ := info_parts info_box
  have hD : ((l.drop (k + 1)).flatMap bxC).length = (r + 1) * 8 := by rw [flat_len box_len, List.length_drop, hl]; congr 1; omega
  have hDe : (l.drop (k + 1)).flatMap bxC = (l.flatMap bxC).drop ((k + 1) * 8) := flat_drop box_len l (k + 1)
  have hPe : (l.take k).flatMap bxC = (l.flatMap bxC).take (k * 8) := flat_take box_len l k
  obtain ⟨D, hDd⟩ : ∃ D, D = (l.drop (k + 1)).flatMap bxC := ⟨_, rfl⟩
  obtain ⟨Y, hYd⟩ : ∃ Y, Y = bxC x ++ bxC y := ⟨_, rfl⟩
  have hYl : Y.length = 16 := by rw [hYd]; rfl
  rw [← hDd] at hD hDe
  rw [← hYd] at hb
  have hcl : cur.toList.length = cap * 8 := by simpa using hsz
  have hDo : ∀ u ∈ D, u.oneCell' = true := by rw [hDd]; exact flat_one box_one _
  have hYo : ∀ u ∈ Y, u.oneCell' = true := by
    rw [hYd]; intro u hu
    rcases List.mem_append.1 hu with h | h
    · exact box_one x u h
    · exact box_one y u h
  obtain ⟨olds, holds⟩ : ∃ o, o = cur.toList.take (k * 8) := ⟨_, rfl⟩
  have hol : olds.length = k * 8 := by rw [holds, List.length_take]; omega
  -- the row that append makes
  have hfirst : ∀ W, Ext w W → (Builtin.firstCells ic.size k (.slice (some ⟨g, 0, none⟩) k cap)).run Tryz.prog W.drew = .ok olds.toArray W.drew := by
    intro W hW
    have h1 := run_loadCells_list (P := Tryz.prog) W.drew ⟨g, 0, none⟩ olds (fun j v hj => by
      rw [add_none, ((hg.ext hW).ext (Ext.drew (Ext.refl _))).cell, Nat.zero_add]
      rw [holds, List.getElem?_take] at hj
      split at hj
      · simpa using hj
      · cases hj)
    rw [hol] at h1
    simp [Builtin.firstCells, hc1, h1]
  have happ := fun W (hW : Ext w W) ty => Lib.run_append_grow_zeros (P := Tryz.prog) W 39 3 ty 38 ic _ .i64 .i64 Tryz.underlying39 Tryz.underlying3 hic hc0 (some ⟨g, 0, none⟩) k cap olds (hfirst W hW) (r + 3) (by omega) (by rw [hc1]; omega) (by omega) (by omega) (by rw [hc2]; omega) (growslice_fits (by omega) (by rw [hc2]; omega))
  have HAP := Lib.hid happ
  have z1 : ¬ cap = k := by omega
  have z2 : ¬ cap = k + 1 := by omega
  have q1 : k ≤ cap := by omega
  have q2 : k + 1 ≤ k + 1 + (r + 1) := by omega
  have q3 : k + 1 ≤ cap := by omega
  have p1 : (0 : Int) ≤ (k : Int) + 1 := by omega
  have p3 : (0 : Int) ≤ (k : Int) + 2 := by omega
  have p4 : (k : Int) + 2 ≤ (k : Int) + 2 + ((r : Int) + 1) := by omega
  have p2 : (k : Int) + 1 ≤ (k : Int) + 1 + ((r : Int) + 1) := by omega
  have hZ : ∀ W : World, ∃ (gc : Nat) (Z : Array Value), grownCap W (k + (r + 3)) cap 38 = gc ∧ k + (r + 3) ≤ gc ∧ gc ≤ 9223372036854775807 ∧ Z.toList.length = gc * 8 ∧ Z.toList.take (k * 8) = olds ∧
      (olds.toArray ++ Builtin.zeroCells (Value.agg #[.int .i64 0, .int .i64 0, .int .i64 0, .int .i64 0, .int .i64 0, .int .i64 0, .int .i64 0, .int .i64 0]).cells (r + 3) ++ Builtin.zeroCells (Value.agg #[.int .i64 0, .int .i64 0, .int .i64 0, .int .i64 0, .int .i64 0, .int .i64 0, .int .i64 0, .int .i64 0]).cells (grownCap W (k + (r + 3)) cap 38 - (k + (r + 3)))) = Z := by
    intro W
    have h1 := grownCap_ge W (k + (r + 3)) cap 38
    have h2 := grownCap_le_maxLen W (k + (r + 3)) cap 38 (by unfold maxLen; omega)
    have hM : maxLen = 9223372036854775807 := rfl
    rw [hM] at h2
    refine ⟨_, _, rfl, h1, h2, ?_, ?_, rfl⟩
    · have e : ∀ n, (Builtin.zeroCells (Value.agg #[.int .i64 0, .int .i64 0, .int .i64 0, .int .i64 0, .int .i64 0, .int .i64 0, .int .i64 0, .int .i64 0]).cells n).size = n * 8 := fun n => by rw [size_zeroCells]; rfl
      rw [Array.length_toList, Array.size_append, Array.size_append, e, e]
      have : olds.toArray.size = k * 8 := by simpa using hol
      omega
    · rw [Array.toList_append, Array.toList_append, List.append_assoc, ← hol]
      exact List.take_left
  have HZ := Lib.hid hZ
  have HF : Hid (∀ (W : World) (G gc : Nat) (Z : Array Value), Ext w W → Blk W G 38 Z → k + (r + 3) ≤ gc → gc ≤ 9223372036854775807 → Z.toList.length = gc * 8 → Z.toList.take (k * 8) = olds → w.heap.size ≤ G →
      ∃ c1 : Array Value, (∀ ty dc, (Builtin.copy_ #[39, 39] ty #[.slice (some ⟨G, k * 8, none⟩) (r + 3) dc, .slice (some ⟨gb, 0, none⟩) 2 2]).run Tryz.prog W = .ok (goInt ((2 : Nat) : Int)) (W.setRow G c1)) ∧
        ∀ W2, Ext (W.setRow G c1) W2 → ∃ c2 : Array Value, (∀ ty dc sc, (Builtin.copy_ #[39, 39] ty #[.slice (some ⟨G, (k + 2) * 8, none⟩) (k + (r + 3) - (k + 2)) dc, .slice (some ⟨g, (k + 1) * 8, none⟩) (r + 1) sc]).run Tryz.prog W2 = .ok (goInt ((r + 1 : Nat) : Int)) (W2.setRow G c2)) ∧
          OwnBxs base (W2.setRow G c2) (.slice (some ⟨G, 0, none⟩) (k + (r + 3)) gc) (l.take k ++ x :: y :: l.drop (k + 1)) ∧ w.grownBy (W2.setRow G c2) (some g)) := by
    intro W G gc Z hW hG h1 h2 h3 h4 h5
    have hgG : g ≠ G := by have := hg.lt; omega
    have hbG : gb ≠ G := by have := hb.lt; omega
    have hc1l : (Z.toList.take (k * 8) ++ Y ++ Z.toList.drop (k * 8 + Y.length)).length = gc * 8 := by
      simp only [List.length_append, List.length_take, List.length_drop, h3, hYl]
      omega
    refine ⟨(Z.toList.take (k * 8) ++ Y ++ Z.toList.drop (k * 8 + Y.length)).toArray, fun ty dc => ?_, fun W2 hW2 => ?_⟩
    · exact run_copy_n (P := Tryz.prog) W 39 39 ty 38 8 G (k * 8) (r + 3) dc ⟨gb, 0, none⟩ 2 2 2 Z 38 Y Tryz.underlying39 box_sz hG (by simp only [Nat.min_def]; split <;> omega) hYl (by
        intro j v hj
        rw [add_none, (hb.ext hW).cell, ← hj]
        simp) (by rw [hYl]; have : Z.size = gc * 8 := by simpa using h3
                  omega) hYo
    · have hG2 := (setRow_blk (cs := (Z.toList.take (k * 8) ++ Y ++ Z.toList.drop (k * 8 + Y.length)).toArray) hG).ext hW2
      have hg2 : Blk W2 g 38 cur := Blk.ext ((setRow_other _ _ _ _ hgG).trans (hg.ext hW)) hW2
      have hlen : (l.take k ++ x :: y :: l.drop (k + 1)).length = k + (r + 3) := by simp; omega
      refine ⟨_, fun ty dc sc => run_copy_n (P := Tryz.prog) W2 39 39 ty 38 8 G ((k + 2) * 8) (k + (r + 3) - (k + 2)) dc ⟨g, (k + 1) * 8, none⟩ (r + 1) sc (r + 1) _ 38 D Tryz.underlying39 box_sz hG2 (by simp only [Nat.min_def]; split <;> omega) hD (by
        intro j v hj
        rw [add_none, hg2.cell]
        rw [hDe, List.getElem?_drop, ← htk, List.getElem?_take] at hj
        split at hj
        · simpa using hj
        · cases hj) (by rw [hD, List.size_toArray, hc1l]; omega) hDo, ?_, ?_⟩
      · refine ⟨by rw [hlen, flat_len box_len, hlen], .inr ⟨G, gc, _, by rw [hlen], by omega, setRow_blk hG2, by omega, by unfold maxLen; omega, ?_, ?_⟩⟩
        · simp only [List.size_toArray, List.length_append, List.length_take, List.length_drop, hYl, h3, hD]
          omega
        · have e1 := two_splices Z.toList olds Y D (k * 8) 16 ((r + 1) * 8) h4 (by omega) hYl hD (by omega)
          rw [hlen]
          show (List.take ((k + 2) * 8) (Z.toList.take (k * 8) ++ Y ++ Z.toList.drop (k * 8 + Y.length)) ++ D ++ List.drop ((k + 2) * 8 + D.length) (Z.toList.take (k * 8) ++ Y ++ Z.toList.drop (k * 8 + Y.length))).take ((k + (r + 3)) * 8) = _
          rw [show (k + 2) * 8 = k * 8 + 16 by omega, show (k + (r + 3)) * 8 = k * 8 + 16 + (r + 1) * 8 by omega, e1, List.flatMap_append, hPe, ← htk, List.take_take, Nat.min_eq_left (by omega), holds, List.append_assoc, hYd, hDd]
          simp only [List.flatMap_cons, List.append_assoc]
      · refine grown_setRow2 ?_ h5
        exact grown_ext2 (grown_setRow2 (grown_of_ext hW) h5) hW2
  clear happ hZ hfirst hg hb hDo hYo hDe hPe htk hcl hYd hDd hD hYl hol holds
  go_enter Tryz.func136, Tryz.ntmps136
  go_wp2_with fail
  refine wp_region_text (by kernel_rfl) (by kernel_rfl) ?_
  (repeat' (first | (refine bl_off (by rfl) ?_; simp only [putX]) | (apply bl_op; rfl; (intro w1 h1; obtain ⟨hc, hf, hz⟩ := bcell h1; go_simp; (try go_bits); (first | exact ⟨rfl, Ext.refl _⟩)); simp only [putX]) | (refine bl_split rfl rfl (fun hx => ?_) (fun hx => ?_) <;> simp only [hx])))
  refine bl_nil ?_
  intro w9 h9
  have hap := HAP.out w9 h9 39
  obtain ⟨gc, Z, e1, e2, e3, e4, e5, e6⟩ := HZ.out w9
  rw [e6, e1] at hap
  obtain ⟨c1, f1, f2⟩ := HF.out (w9.alloc (.cells Z 38)).drew w9.heap.size gc Z (h9.alloc _).drew ((Blk.newAt rfl).ext (Ext.drew (Ext.refl _))) e2 e3 e4 e5 h9.size
  have HAP9 := Lib.hid hap
  have F1 := Lib.hid f1
  have F2 := Lib.hid f2
  clear hap f1 f2 e1 e4 e5 e6
  go_wp2_with (at_builtin; go_loud (refine Lib.wpList_append_run _ rfl (.tmp 63) (.tmp 66) 39 3 rfl _ _ rfl (congrArg (Value.int .i64) (by omega)) _ _ HAP9.out ?_))
  have hc1 := F1.out 3 (gc - k)
  have y1 : ¬ gc = k := by omega
  have y2 : ¬ gc = k + 2 := by omega
  have p5 : (k : Int) + 2 ≤ (k : Int) + ((r : Int) + 3) := by omega
  go_wp2_with (simp only [hc1, Result.andThen])
  refine wp_region_fin 9 (Ext _) (Stable.ext _) (Ext.drew (Ext.refl _)) (by kernel_rfl) (by kernel_rfl) ?_
  simp only [List.take_succ_cons, List.take_zero, pick1, List.drop_succ_cons, List.drop_zero]
  (repeat' (first | (refine bl_off (by rfl) ?_; simp only [putX]) | (apply bl_op; rfl; (intro w1 h1; obtain ⟨hc, hf, hz⟩ := bcell h1; go_simp; (try go_bits); (first | exact ⟨rfl, Ext.refl _⟩)); simp only [putX]) | (refine bl_split rfl rfl (fun hx => ?_) (fun hx => ?_) <;> simp only [hx])))
  refine bl_nil ?_
  intro w10 h10
  refine ⟨trivial, ?_⟩
  obtain ⟨c2, f3, f4, f5⟩ := F2.out w10 h10
  refine runs_copy _ (.tmp 78) (.tmp 81) 39 39 rfl (.slice (some ⟨w9.heap.size, (k + 2) * 8, none⟩) (k + (r + 3) - (k + 2)) (gc - (k + 2))) (.slice (some ⟨g, (k + 1) * 8, none⟩) (r + 1) (cap - (k + 1))) (by go_simp) (by go_simp) (f3 _ _ _) ?_
  have HF4 := Lib.hid f4
  have HF5 := Lib.hid f5
  clear f3 f4 f5
  go_wp2_with fail
  go_ret
  exact ⟨_, rfl, HF4.out, HF5.out⟩
theorem Replace_c (base k : Nat) (v : Value) (l : List Bx) (x y : Bx) (gb : Nat) (w : World) (ho : OwnBxs base w v l) (hk : k < l.length) (hsm : l.length ≤ 600) (hb : Blk w gb 38 (bxC x ++ bxC y).toArray) (hgb : gb < base) (hbase : base ≤ w.heap.size) :
    Calls Tryz.prog 136 #[v, .int .i64 (k : Int), .int .i64 ((k : Int) + 1), .slice (some ⟨gb, 0, none⟩) 2 2] w fun e w' =>
      ∃ v', e = .returned v' ∧ OwnBxs base w' v' (l.take k ++ x :: y :: l.drop (k + 1)) ∧ ∀ w0, base = w0.heap.size → Ext w0 w → Ext w0 w' := by
  obtain ⟨hlen, h⟩ := ho
  rcases h with ⟨_, h0⟩ | ⟨g, cap, cur, rfl, hbg, hg, hnc, hcm, hcs, htk⟩
  · omega
  have hM : maxLen = 9223372036854775807 := rfl
  rw [hM] at hcm
  have hext : ∀ w', w.grownBy w' (some g) → ∀ w0, base = w0.heap.size → Ext w0 w → Ext w0 w' := fun w' hw w0 h1 h2 => grown_ext h2 hw (fun j hj => by injection hj with hj; omega)
  rcases (show l.length = k + 1 ∨ ∃ r, l.length = k + 1 + (r + 1) by
    rcases Nat.lt_or_ge (k + 1) l.length with h | h
    · exact .inr ⟨l.length - k - 2, by omega⟩
    · exact .inl (by omega)) with hl | ⟨r, hl⟩
  · rw [hl] at hnc ⊢
    refine (Replace_end base g cap gb k l x y w ⟨hlen, .inr ⟨g, cap, cur, by rw [hl], hbg, hg, by omega, by rw [hM]; omega, hcs, htk⟩⟩ hl hnc hb hbase (by omega) hcm).mono ?_
    rintro e w' ⟨v', he, h1, h2⟩
    refine ⟨v', he, ?_, hext w' h2⟩
    rw [List.drop_of_length_le (by omega)]
    exact h1
  · rw [hl] at hnc htk ⊢
    rcases Nat.lt_or_ge cap (k + 1 + (r + 1) + 1) with hc | hc
    · refine (Replace_grow base g cap gb k r l x y cur w hg hcs htk hl hnc hc hb (by omega) hbase).mono ?_
      rintro e w' ⟨v', he, h1, h2⟩
      exact ⟨v', he, h1, hext w' h2⟩
    · refine (Replace_room base g cap gb k r l x y cur w hg hcs htk hl hc hb (by omega) hcm hbg).mono ?_
      rintro e w' ⟨v', he, h1, h2⟩
      exact ⟨v', he, h1, hext w' h2⟩
end Go.Proofs.YtfniicgoeljmdaaGreat

namespace Go.Proofs.YtfniicgoeljmdaaGreat
open Go.RowKit

def zbC : Value := .agg #[.int .i64 0, .int .i64 0, .int .i64 0, .int .i64 0, .int .i64 0, .int .i64 0, .int .i64 0, .int .i64 0]
theorem run_zero_box (w : World) : (zeroValue 38).run Tryz.prog w = .ok zbC w := by
  obtain ⟨ic, hic, hc0, hc1, hc2⟩ := info_parts info_box
  simp [zeroValue, typeInfo, hic, hc0, zbC]
theorem zero_cells_box (n : Nat) : (Builtin.zeroCells zbC.cells n).toList.length = n * 8 ∧ ∀ u ∈ (Builtin.zeroCells zbC.cells n).toList, u.oneCell' = true := by
  refine ⟨by simp [Builtin.zeroCells, zbC, Value.cells], fun u hu => ?_⟩
  simp only [Builtin.zeroCells, Array.toList_map, Array.toList_range, List.mem_map, List.mem_range] at hu
  obtain ⟨i, _, rfl⟩ := hu
  have h8 : zbC.cells.size = 8 := by decide
  rw [h8]
  have h9 : i % 8 < 8 := Nat.mod_lt _ (by omega)
  generalize i % 8 = k at *
  rcases (show k = 0 ∨ k = 1 ∨ k = 2 ∨ k = 3 ∨ k = 4 ∨ k = 5 ∨ k = 6 ∨ k = 7 by omega) with rfl | rfl | rfl | rfl | rfl | rfl | rfl | rfl <;> rfl
theorem run_clear_box (w : World) (ty : TypeId) (g o n c : Nat) (cur : Array Value) (hg : Blk w g 38 cur) (hn : 0 < n) (hfit : o + n * 8 ≤ cur.size) :
    (Builtin.clear_ #[39] ty #[.slice (some ⟨g, o, none⟩) n c]).run Tryz.prog w = .ok (.tuple #[]) (w.setRow g (cur.toList.take o ++ (Builtin.zeroCells zbC.cells n).toList ++ cur.toList.drop (o + n * 8)).toArray) := by
  obtain ⟨hl, h1⟩ := zero_cells_box n
  have hst := run_storeCells_at Tryz.prog g o 38 (Builtin.zeroCells zbC.cells n).toList 0 cur w hg (by rw [hl]; simpa using hfit) h1
  rw [hl, Nat.add_zero] at hst
  obtain ⟨m, rfl⟩ : ∃ m, n = m + 1 := ⟨n - 1, by omega⟩
  have hz := run_zero_box w
  simp [Builtin.clear_, run_underlying Tryz.underlying39, hz, hst]
theorem boxes_set : ∀ (l : List Bx) (j : Nat) (p : Bx), ((((((((l.flatMap bxC).set (j * 8) (.int .i64 p.x.lo)).set (j * 8 + 1) (.int .i64 p.x.hi)).set (j * 8 + 2) (.int .i64 p.y.lo)).set (j * 8 + 3) (.int .i64 p.y.hi)).set (j * 8 + 4) (.int .i64 p.u.lo)).set (j * 8 + 5) (.int .i64 p.u.hi)).set (j * 8 + 6) (.int .i64 p.v.lo)).set (j * 8 + 7) (.int .i64 p.v.hi) = (l.set j p).flatMap bxC
  | [], j, p => by simp
  | x :: r, 0, p => by simp [bxC]
  | x :: r, j + 1, p => by
    have h := boxes_set r j p
    have e : (j + 1) * 8 = j * 8 + 1 + 1 + 1 + 1 + 1 + 1 + 1 + 1 := by omega
    rw [List.set_cons_succ, List.flatMap_cons, List.flatMap_cons, ← h, e]
    simp [bxC]
theorem own_put {base g n c : Nat} {w : World} {l : List Bx} (h : OwnBxs base w (.slice (some ⟨g, 0, none⟩) n c) l) (j : Nat) (p : Bx) :
    OwnBxs base ((((((((w.setCell ⟨g, j * 8, none⟩ (.int .i64 p.x.lo)).setCell ⟨g, j * 8 + 1, none⟩ (.int .i64 p.x.hi)).setCell ⟨g, j * 8 + 2, none⟩ (.int .i64 p.y.lo)).setCell ⟨g, j * 8 + 3, none⟩ (.int .i64 p.y.hi)).setCell ⟨g, j * 8 + 4, none⟩ (.int .i64 p.u.lo)).setCell ⟨g, j * 8 + 5, none⟩ (.int .i64 p.u.hi)).setCell ⟨g, j * 8 + 6, none⟩ (.int .i64 p.v.lo)).setCell ⟨g, j * 8 + 7, none⟩ (.int .i64 p.v.hi)) (.slice (some ⟨g, 0, none⟩) n c) (l.set j p) := by
  have hn : n = l.length := by
    obtain ⟨A, c', h1, _⟩ := h.sl
    injection h1
  unfold OwnBxs at h ⊢
  rw [List.length_set, ← boxes_set, ← hn]
  rw [← hn] at h
  exact ((((((((h.stored _ _).1.stored _ _).1.stored _ _).1.stored _ _).1.stored _ _).1.stored _ _).1.stored _ _).1.stored _ _).1
theorem own_cut {base g i n c : Nat} {w : World} {F R : List Bx} {cur : Array Value} (h : OwnBxs base w (.slice (some ⟨g, 0, none⟩) n c) (F ++ R)) (hi : i = F.length) (hb : Blk w g 38 cur) (Z : List Value) (hZ : Z.length = (n - i) * 8) :
    OwnBxs base (w.setRow g (cur.toList.take (i * 8) ++ Z ++ cur.toList.drop (i * 8 + (n - i) * 8)).toArray) (.slice (some ⟨g, 0, none⟩) i c) F := by
  have hn : n = (F ++ R).length := by
    obtain ⟨A, c', h1, _⟩ := h.sl
    injection h1
  have hin : i ≤ n := by rw [hn, hi, List.length_append]; omega
  rcases h.2 with ⟨h1, _⟩ | ⟨g', cap', cur', h1, h2, h3, h4, h5, h6, h7⟩
  · cases h1
  · injection h1 with h1a h1b h1c
    injection h1a with h1a
    injection h1a with h1a
    subst h1a h1c
    have h8 := hb.symm.trans h3
    simp only [Option.some.injEq, Obj.cells.injEq] at h8
    obtain rfl := h8.1
    rw [← hn] at h7 h4
    have hsz : cur.toList.length = c * 8 := by simpa using h6
    have hle : i * 8 + (n - i) * 8 ≤ c * 8 := by omega
    refine ⟨flat_len box_len _, .inr ⟨g, c, _, by rw [hi], h2, setRow_blk hb, by omega, h5, ?_, ?_⟩⟩
    · simp only [List.size_toArray, List.length_append, List.length_take, List.length_drop, hsz, hZ]
      omega
    · rw [← hi]
      simp only [List.append_assoc]
      rw [List.take_append_of_le_length (by rw [List.length_take, hsz]; omega), List.take_take, Nat.min_self]
      have h9 : F.flatMap bxC = ((F ++ R).flatMap bxC).take (i * 8) := by
        rw [← flat_take box_len, hi, List.take_left]
      rw [h9, ← h7, List.take_take, Nat.min_eq_left (by omega)]
theorem own_bxs {base n c : Nat} {w : World} {A : Option Addr} {l : List Bx} (h : OwnBxs base w (.slice A n c) l) : Bxs w A n l ∧ n = l.length ∧ n ≤ c := by
  obtain ⟨A', c', h1, h2, h3⟩ := h.cap
  injection h1 with e1 e2 e3
  subst e1 e2 e3
  exact ⟨h2, rfl, h3⟩
theorem own_frozen {base n c g : Nat} {w : World} {l : List Bx} (h : OwnBxs base w (.slice (some ⟨g, 0, none⟩) n c) l) (q : Nat) : w.frozen? ⟨g, q, none⟩ = false := by
  obtain ⟨_, h1, _⟩ := own_bxs h
  unfold OwnBxs at h
  rw [← h1] at h
  exact h.frozenAt q
theorem del_step {l F M : List Bx} {p : Bx → Bool} {i j : Nat} {x : Bx} (hF : F = (l.take j).filter fun x => !p x) (hi : i = F.length) (hM : M = F ++ l.drop i) (hij : i ≤ j) (hx : l[j]? = some x) (hp : p x = false) :
    F ++ [x] = (l.take (j + 1)).filter (fun x => !p x) ∧ i + 1 = (F ++ [x]).length ∧ M.set i x = (F ++ [x]) ++ l.drop (i + 1) := by
  have hj : j < l.length := (List.getElem?_eq_some_iff.1 hx).1
  refine ⟨?_, by simp [hi], ?_⟩
  · rw [List.take_add_one, hx, List.filter_append, ← hF]
    simp [hp]
  · have e := List.drop_eq_getElem_cons (show i < l.length by omega)
    rw [hM, e, List.set_append_right _ _ (by omega), show i - F.length = 0 by omega, List.set_cons_zero, List.append_assoc]
    rfl
theorem del_skip {l F : List Bx} {p : Bx → Bool} {j : Nat} {x : Bx} (hF : F = (l.take j).filter fun x => !p x) (hx : l[j]? = some x) (hp : p x = true) : F = (l.take (j + 1)).filter fun x => !p x := by
  rw [List.take_add_one, hx, List.filter_append, ← hF]
  simp [hp]
theorem idxFrom_ge {α : Type} (p : α → Bool) : ∀ (r : List α) (k : Nat), idxFrom p r k = -1 ∨ (k : Int) ≤ idxFrom p r k
  | [], _ => .inl rfl
  | x :: r, k => by
    cases hp : p x
    · rw [idxFrom, hp]
      rcases idxFrom_ge p r (k + 1) with h | h
      · exact .inl (by simpa using h)
      · exact .inr (by simp; omega)
    · rw [idxFrom, hp]
      exact .inr (by simp)
theorem del_first {l : List Bx} {p : Bx → Bool} {i : Nat} {x : Bx} (_ : l.find? p = some x) (hx : l[i]? = some x) (hidx : idxFrom p l 0 = (i : Int)) : l.take i = (l.take (i + 1)).filter fun x => !p x := by
  have key : ∀ (l : List Bx) (i k : Nat) (x : Bx), l[i]? = some x → idxFrom p l k = ((k + i : Nat) : Int) → l.take i = (l.take (i + 1)).filter fun x => !p x := by
    intro l
    induction l with
    | nil => intro i k x h; simp at h
    | cons y r ih =>
      intro i k x h e
      cases hp : p y
      · rw [idxFrom, hp] at e
        cases i with
        | zero =>
          exfalso
          simp at e
          rcases idxFrom_ge p r (k + 1) with h | h
          · omega
          · omega
        | succ i =>
          have h3 := ih i (k + 1) x (by simpa using h) (by simp at e; rw [e]; omega)
          rw [List.take_succ_cons, List.take_succ_cons, List.filter_cons, hp, h3]
          simp
      · rw [idxFrom, hp] at e
        have : i = 0 := by simp at e; omega
        subst this
        simp [hp]
  exact key l i 0 x hx (by simpa using hidx)
set_option maxRecDepth 20000 in
set_option maxHeartbeats 4000000 in
theorem Delete_c (base : Nat) (v : Value) (l : List Bx) (fid : Nat) (cap : Array Value) (p : Bx → Bool) (w0 w : World) (ho : OwnBxs base w v l) (hbase : w0.heap.size ≤ base) (he : Ext w0 w) (hsm : l.length ≤ 2000)
    (hcall : ∀ (xs : Array Value) (W : World), (callFunc fid xs).run Tryz.prog W = .ok (.enter fid xs) W)
    (hf : ∀ x ∈ l, ∀ W, Ext w0 W → Calls Tryz.prog fid (#[.agg #[.int .i64 x.x.lo, .int .i64 x.x.hi, .int .i64 x.y.lo, .int .i64 x.y.hi, .int .i64 x.u.lo, .int .i64 x.u.hi, .int .i64 x.v.lo, .int .i64 x.v.hi]] ++ cap) W fun e w' => e = .returned (.bool (p x)) ∧ Ext W w') :
    Calls Tryz.prog 137 #[v, .func (.func fid) #[] cap] w fun e w' => ∃ v', e = .returned v' ∧ OwnBxs base w' v' (l.filter fun x => !p x) ∧ Ext w0 w' := by
  obtain ⟨A, c, rfl, hs, hc⟩ := ho.cap
  have HI := Lib.hid (idxBx_c A l.length c l fid cap p w hs hcall (fun x hx W hW => hf x hx W (he.trans hW)))
  have Hf := Lib.hid hf
  have HO := Lib.hid ho
  have HE := Lib.hid he
  rcases idx_cases p l with ⟨h1, h2⟩ | ⟨i0, x0, hi, h1, hx0, h2⟩
  · rw [h1] at HI
    have hfl : l.filter (fun x => !p x) = l := by
      rw [List.filter_eq_self]
      intro x hx
      have := (List.find?_eq_none.1 h2) x hx
      simpa using this
    rw [hfl]
    clear hfl h1 h2 hs ho he hf
    go_enter Tryz.func137, Tryz.ntmps137
    go_wp2_with fail
    refine HI.out.mono ?_
    rintro e w1 ⟨rfl, h1⟩
    go_wp2_with fail
    go_ret
    exact ⟨_, rfl, OwnBxs.ext HO.out h1, HE.out.trans h1⟩
  · rw [h1] at HI
    obtain ⟨g, c', hA, hbg, hgs⟩ := own_some ho (by intro e; injection e with _ e2; omega)
    injection hA with hA _ hcc
    subst hA hcc
    have HF0 := Lib.hid (del_first h2 hx0 h1)
    obtain ⟨n, hn⟩ : ∃ n, n = l.length := ⟨_, rfl⟩
    have Hn := Lib.hid hn
    rw [← hn] at HI hc hi hsm ⊢
    have HO2 : Hid (OwnBxs base w (.slice (some ⟨g, 0, none⟩) n c) l) := by unfold Hid; rw [Hn.out]; exact ho
    clear hs ho he hf hn h1 h2 hx0 HO
    have hi0 : ((i0 : Int) == -1) = false := by simp
    go_enter Tryz.func137, Tryz.ntmps137
    go_wp2_with fail
    refine HI.out.mono ?_
    rintro e w1 ⟨rfl, h1⟩
    have HO1 : Hid (OwnBxs base w1 (.slice (some ⟨g, 0, none⟩) n c) l) := OwnBxs.ext HO2.out h1
    have E1 : Ext w0 w1 := HE.out.trans h1
    clear HO2 HE h1
    go_wp2_with fail
    go_loopw [5, 6] (fun ii jj wr => ∃ (i j : Nat) (F M : List Bx), ii = .int .i64 i ∧ jj = .int .i64 j ∧ i < j ∧ j ≤ n ∧ Hid (F = (l.take j).filter fun x => !p x) ∧ Hid (i = F.length) ∧ Hid (M = F ++ l.drop i) ∧ Hid (OwnBxs base wr (.slice (some ⟨g, 0, none⟩) n c) M) ∧ Ext w0 wr) (fun _ jj _ => n - (intOf jj).toNat)
    case atStart => exact ⟨i0, i0 + 1, l.take i0, l, by rfl, by go_num, by omega, by omega, HF0, Lib.hid (by rw [List.length_take, ← Hn.out]; omega), Lib.hid (List.take_append_drop _ _).symm, HO1, E1⟩
    case round =>
      clear HO1 E1
      obtain ⟨i, j, F, M, rfl, rfl, hij, hjn, HF, Hi, HM, HO, E⟩ := hrel
      by_cases hlt : j < n
      · obtain ⟨hsM, hMn, hnc⟩ := own_bxs HO.out
        obtain ⟨b, off, x, hA, HD, _, hx⟩ := hsM.one hlt
        injection hA with hA
        injection hA with e1 e2 _
        subst e1 e2
        have hxl : l[j]? = some x := by
          have h1 := congrArg List.head? HD.out
          rw [HM.out, List.drop_append, Hi.out.symm, List.drop_drop, show i + (j - i) = j by omega, List.drop_of_length_le (by rw [← Hi.out]; omega), List.nil_append, List.head?_drop] at h1
          exact h1
        have HXL := Lib.hid hxl
        have hxm : x ∈ l := List.mem_of_getElem? hxl
        obtain ⟨_, _, y, hA, _, _, hy⟩ := hsM.one (show i < n by omega)
        injection hA with hA
        injection hA with e1 e2 _
        subst e1 e2
        have HP := Lib.hid (Hf.out x hxm)
        have HY := Lib.hid hy
        have hfr : ∀ W, Ext wr W → ∀ q, W.frozen? ⟨g, q, none⟩ = false := fun W hW q => own_frozen (OwnBxs.ext HO.out hW) q
        have HFR := Lib.hid hfr
        obtain ⟨hx0, hx1, hx2, hx3, hx4, hx5, hx6, hx7⟩ := hx
        have hgl : g < wr.heap.size := World.block_lt_of_cell? wr _ hx0
        simp only [Nat.zero_add] at hx0 hx1 hx2 hx3 hx4 hx5 hx6 hx7
        have HMn := Lib.hid hMn
        clear hxl hxm hy hfr hsM HD hMn
        obtain ⟨⟨xl, xh⟩, ⟨yl, yh⟩, ⟨ul, uh⟩, vl, vh⟩ := x
        dsimp only at hx0 hx1 hx2 hx3 hx4 hx5 hx6 hx7 HP
        obtain ⟨P, hP⟩ : ∃ P, p ⟨⟨xl, xh⟩, ⟨yl, yh⟩, ⟨ul, uh⟩, vl, vh⟩ = P := ⟨_, rfl⟩
        rw [hP] at HP
        have HPP := Lib.hid hP
        clear hP
        cases P
        · have HS := Lib.hid (del_step HF.out Hi.out HM.out (by omega) HXL.out HPP.out)
          go_wp2_with fail
          refine (HP.out _ ext_by).mono ?_
          rintro e w2 ⟨rfl, h2⟩
          have B7 : Blk w2 wr.heap.size 38 #[.int .i64 xl, .int .i64 xh, .int .i64 yl, .int .i64 yh, .int .i64 ul, .int .i64 uh, .int .i64 vl, .int .i64 vh] := (Blk.new wr _ _).ext h2
          have E2 : Ext wr w2 := (Ext.alloc0 _ _).trans h2
          have HO2 := Lib.hid (OwnBxs.ext HO.out E2)
          have hf2 := HFR.out w2 E2
          obtain ⟨hy0, hy1, hy2, hy3, hy4, hy5, hy6, hy7⟩ := bxAt.ext E2 HY.out
          simp only [Nat.zero_add] at hy0 hy1 hy2 hy3 hy4 hy5 hy6 hy7
          have E3 : Ext w0 w2 := E.trans E2
          have hgl2 : g < w2.heap.size := Nat.lt_of_lt_of_le hgl E2.size
          clear h2 E2 HY HFR HO hx0 hx1 hx2 hx3 hx4 hx5 hx6 hx7 hgl
          have c_B7 := B7.cell; have f_B7 := B7.frozen; have l_B7 := B7.lt
          go_wp2_with fail
          go_roundw
          case rel =>
            obtain ⟨s1, s2, s3⟩ := HS.out
            exact ⟨i + 1, j + 1, F ++ [⟨⟨xl, xh⟩, ⟨yl, yh⟩, ⟨ul, uh⟩, vl, vh⟩], M.set i ⟨⟨xl, xh⟩, ⟨yl, yh⟩, ⟨ul, uh⟩, vl, vh⟩, by go_num, by go_num, by omega, by omega, Lib.hid s1, Lib.hid s2, Lib.hid s3, Lib.hid <| own_put HO2.out i ⟨⟨xl, xh⟩, ⟨yl, yh⟩, ⟨ul, uh⟩, vl, vh⟩, ext_set2 (ext_set2 (ext_set2 (ext_set2 E3 (by omega)) (by omega)) (by omega)) (by omega)⟩
          case measure => simp [intOf]; omega
        · have HS := Lib.hid (del_skip HF.out HXL.out HPP.out)
          go_wp2_with fail
          refine (HP.out _ ext_by).mono ?_
          rintro e w2 ⟨rfl, h2⟩
          have E2 : Ext wr w2 := (Ext.alloc0 _ _).trans h2
          have HO2 := Lib.hid (OwnBxs.ext HO.out E2)
          have E3 : Ext w0 w2 := E.trans E2
          clear h2 E2 HY HFR HO hx0 hx1 hx2 hx3 hx4 hx5 hx6 hx7 hgl
          go_wp2_with fail
          go_roundw
          case rel => exact ⟨i, j + 1, F, M, rfl, by go_num, by omega, by omega, HS, Hi, HM, HO2, E3⟩
          case measure => simp [intOf]; omega
      · have hjn' : j = n := by omega
        subst hjn'
        obtain ⟨hsM, hMn, hnc⟩ := own_bxs HO.out
        have hFF : F = l.filter fun x => !p x := by have := HF.out; rw [Hn.out, List.take_length] at this; exact this
        obtain ⟨cur, h3, h6⟩ : ∃ cur, Blk wr g 38 cur ∧ cur.size = c * 8 := by
          rcases HO.out.2 with ⟨h1, _⟩ | ⟨g', cap', cur, h1, _, h3, _, _, h6, _⟩
          · cases h1
          injection h1 with h1a _ h1c
          injection h1a with h1a
          injection h1a with h1a
          subst h1a h1c
          exact ⟨cur, h3, h6⟩
        obtain ⟨W, hcl, hfin, hee⟩ : ∃ W, (Builtin.clear_ #[39] 0 #[.slice (some ⟨g, i * 8, none⟩) (j - i) (c - i)]).run Tryz.prog wr = .ok (.tuple #[]) W ∧ OwnBxs base W (.slice (some ⟨g, 0, none⟩) i c) (l.filter fun x => !p x) ∧ Ext w0 W := by
          refine ⟨_, run_clear_box wr 0 g (i * 8) (j - i) (c - i) cur h3 (by omega) (by omega), ?_, setRow_ext E (by omega)⟩
          rw [← hFF]
          have := HO.out
          rw [HM.out] at this
          exact own_cut this Hi.out h3 _ (zero_cells_box _).1
        have HCL := Lib.hid hcl
        have HFIN := Lib.hid hfin
        have HEE := Lib.hid hee
        clear hcl hfin hee
        clear hsM hMn hFF h3 h6 HO HF Hn
        have q1 : ¬ c = i := by omega
        have q2 : i ≤ c := by omega
        have q3 : i ≤ j := by omega
        have hcl := HCL.out
        go_wp2_with (simp only [hcl, Result.andThen])
        go_ret
        exact ⟨_, rfl, HFIN.out, HEE.out⟩
end Go.Proofs.YtfniicgoeljmdaaGreat

namespace Go.Proofs.YtfniicgoeljmdaaGreat
open Go.RowKit

set_option maxHeartbeats 400000 in
theorem hasSight_c (A : Option Addr) (n c : Nat) (l : List Sight) (fid : Nat) (cap : Array Value) (p : Sight → Bool) (w : World) (hl : Sights w A n l)
    (hcall : ∀ (xs : Array Value) (W : World), (callFunc fid xs).run Tryz.prog W = .ok (.enter fid xs) W)
    (hf : ∀ x ∈ l, ∀ W, Ext w W → Calls Tryz.prog fid (#[.agg #[.int .i64 x.kind, .int .i64 x.station, .int .i64 x.catalog, .int .i64 x.tick, .int .i64 x.dx, .int .i64 x.dy, .int .i64 x.err, .int .i64 x.lo, .int .i64 x.hi]] ++ cap) W fun e w' => e = .returned (.bool (p x)) ∧ Ext W w') :
    Calls Tryz.prog 139 #[.slice A n c, .func (.func fid) #[] cap] w fun e w' => e = .returned (.bool (hasP p l)) ∧ Ext w w' := by
  have Hf := Lib.hid hf
  clear hf
  go_enter Tryz.func139, Tryz.ntmps139
  go_wp2_with fail
  refine (idxSight_c A n c l fid cap p w hl hcall Hf.out).mono ?_
  rintro e w1 ⟨rfl, h1⟩
  go_wp2_with fail
  go_ret
  exact ⟨ret_b (by simp [hasP]), h1⟩
def hitB (s : Sky) (tick : Int) (b : Bx) (x : Sight) : Bool := decide (x.tick = tick) && exclAll s x b.x.lo b.x.hi b.y.lo b.y.hi
def filtB (s : Sky) (tick : Int) (l : List Sight) (b : Bx) : Bool := l.any (hitB s tick b)
def filtL (s : Sky) (tick : Int) (sg : List Sight) (l : List Bx) : List Bx := l.filter fun b => !filtB s tick sg b
set_option maxRecDepth 4000 in
set_option maxHeartbeats 1000000 in
theorem fil11_c (A1 : Option Addr) (n1 c1 : Nat) (home : Int) (A2 : Option Addr) (n2 c2 : Nat) (A3 : Option Addr) (n3 c3 : Nat) (s : Sky) (tick : Int) (gt gs gb : Nat) (tt : TypeId) (b : Bx) (x : Sight) (w : World) (ht : Blk w gt tt #[.int .i64 tick]) (hg : Blk w gs 53 #[.slice A1 n1 c1, .int .i64 home, .slice A2 n2 c2, .slice A3 n3 c3])
    (hb : Blk w gb 38 #[.int .i64 b.x.lo, .int .i64 b.x.hi, .int .i64 b.y.lo, .int .i64 b.y.hi, .int .i64 b.u.lo, .int .i64 b.u.hi, .int .i64 b.v.lo, .int .i64 b.v.hi]) (hs : IsSky w A1 n1 home A2 n2 A3 n3 s) :
    Calls Tryz.prog 140 (#[.agg #[.int .i64 x.kind, .int .i64 x.station, .int .i64 x.catalog, .int .i64 x.tick, .int .i64 x.dx, .int .i64 x.dy, .int .i64 x.err, .int .i64 x.lo, .int .i64 x.hi]] ++ #[.pointer (some ⟨gt, 0, none⟩), .pointer (some ⟨gs, 0, none⟩), .pointer (some ⟨gb, 0, none⟩)]) w fun e w' => e = .returned (.bool (hitB s tick b x)) ∧ Ext w w' := by
  have HX := Lib.hid fun W (hW : Ext w W) => Excludes_c A1 n1 c1 home A2 n2 c2 A3 n3 c3 s x.kind x.station x.catalog x.tick x.dx x.dy x.err x.lo x.hi b.x.lo b.x.hi b.y.lo b.y.hi W (hs.ext hW)
  change Hid (∀ W, Ext w W → Calls _ _ _ W fun e w' => e = .returned (.bool (exclAll s x b.x.lo b.x.hi b.y.lo b.y.hi)) ∧ _) at HX
  unfold hitB
  generalize exclAll s x b.x.lo b.x.hi b.y.lo b.y.hi = R at *
  obtain ⟨kind, st, cat, tk, dx, dy, er, lo, hi⟩ := x
  obtain ⟨⟨xl, xh⟩, ⟨yl, yh⟩, ⟨ul, uh⟩, vl, vh⟩ := b
  dsimp only at *
  clear hs
  have c_ht := ht.cell; have f_ht := ht.frozen; have l_ht := ht.lt; have c_hg := hg.cell; have f_hg := hg.frozen; have l_hg := hg.lt; have c_hb := hb.cell; have f_hb := hb.frozen; have l_hb := hb.lt
  clear ht hg hb
  show Calls _ _ #[_, _, _, _] _ _
  by_cases hq : tk = tick
  · subst hq
    go_enter Tryz.func140, Tryz.ntmps140
    go_wp2_with fail
    refine (HX.out _ ext_by).mono ?_
    rintro e w1 ⟨rfl, h1⟩
    go_wp2_with fail
    go_ret
    exact ⟨ret_b (by simp), ext_by⟩
  · have hd : decide (tk = tick) = false := by simpa using hq
    go_enter Tryz.func140, Tryz.ntmps140
    go_wp2_with fail
    go_ret
    exact ⟨ret_b (by simp [hq]), ext_by⟩
set_option maxRecDepth 4000 in
set_option maxHeartbeats 1000000 in
theorem fil1_c (A1 : Option Addr) (n1 c1 : Nat) (home : Int) (A2 : Option Addr) (n2 c2 : Nat) (A3 : Option Addr) (n3 c3 : Nat) (s : Sky) (tick : Int) (gl gt gs : Nat) (tt tl : TypeId) (b : Bx) (A : Option Addr) (n c : Nat) (l : List Sight) (w : World) (ht : Blk w gt tt #[.int .i64 tick]) (hg : Blk w gs 53 #[.slice A1 n1 c1, .int .i64 home, .slice A2 n2 c2, .slice A3 n3 c3])
    (hgl : Blk w gl tl #[.slice A n c]) (hs : IsSky w A1 n1 home A2 n2 A3 n3 s) (hl : Sights w A n l) :
    Calls Tryz.prog 138 (#[.agg #[.int .i64 b.x.lo, .int .i64 b.x.hi, .int .i64 b.y.lo, .int .i64 b.y.hi, .int .i64 b.u.lo, .int .i64 b.u.hi, .int .i64 b.v.lo, .int .i64 b.v.hi]] ++ #[.pointer (some ⟨gl, 0, none⟩), .pointer (some ⟨gt, 0, none⟩), .pointer (some ⟨gs, 0, none⟩)]) w fun e w' => e = .returned (.bool (filtB s tick l b)) ∧ Ext w w' := by
  have HF := Lib.hid fun W (hW : Ext w W) (gb : Nat) (hb : Blk W gb 38 #[.int .i64 b.x.lo, .int .i64 b.x.hi, .int .i64 b.y.lo, .int .i64 b.y.hi, .int .i64 b.u.lo, .int .i64 b.u.hi, .int .i64 b.v.lo, .int .i64 b.v.hi]) =>
    hasSight_c A n c l 140 #[.pointer (some ⟨gt, 0, none⟩), .pointer (some ⟨gs, 0, none⟩), .pointer (some ⟨gb, 0, none⟩)] (hitB s tick b) W (Sights.ext hW hl) Tryz.call140
      (fun x _ W2 hW2 => fil11_c A1 n1 c1 home A2 n2 c2 A3 n3 c3 s tick gt gs gb tt b x W2 (ht.ext (hW.trans hW2)) (hg.ext (hW.trans hW2)) (hb.ext hW2) (hs.ext (hW.trans hW2)))
  have hany : hasP (hitB s tick b) l = filtB s tick l b := hasP_eq _ _
  rw [hany] at HF
  generalize filtB s tick l b = R at *
  obtain ⟨⟨xl, xh⟩, ⟨yl, yh⟩, ⟨ul, uh⟩, vl, vh⟩ := b
  dsimp only at *
  clear hs hl hany
  have c_ht := ht.cell; have f_ht := ht.frozen; have l_ht := ht.lt; have c_hg := hg.cell; have f_hg := hg.frozen; have l_hg := hg.lt; have c_hgl := hgl.cell; have f_hgl := hgl.frozen; have l_hgl := hgl.lt
  clear ht hg hgl
  show Calls _ _ #[_, _, _, _] _ _
  go_enter Tryz.func138, Tryz.ntmps138
  go_wp2_with fail
  refine (HF.out _ ext_by _ (Blk.newAt rfl)).mono ?_
  rintro e w1 ⟨rfl, h1⟩
  go_wp2_with fail
  go_ret
  exact ⟨rfl, ext_by⟩
set_option maxRecDepth 4000 in
set_option maxHeartbeats 1000000 in
theorem oFilterL_c (A1 : Option Addr) (n1 c1 : Nat) (home : Int) (A2 : Option Addr) (n2 c2 : Nat) (A3 : Option Addr) (n3 c3 : Nat) (s : Sky) (tick : Int) (A : Option Addr) (n c : Nat) (l : List Bx) (B : Option Addr) (m d : Nat) (r : List Sight) (w : World) (hs : IsSky w A1 n1 home A2 n2 A3 n3 s) (hl : Bxs w A n l) (hr : Sights w B m r) (hn : n ≤ 2000) :
    Calls Tryz.prog 105 #[.agg #[.slice A1 n1 c1, .int .i64 home, .slice A2 n2 c2, .slice A3 n3 c3], .int .i64 tick, .slice A n c, .slice B m d] w fun e w' => ∃ v, e = .returned v ∧ OwnBxs w.heap.size w' v (filtL s tick r l) ∧ Ext w w' := by
  have HC := Lib.hid fun W (hW : Ext w W) => CloneBox_c A n c l W (Bxs.ext hW hl) (by omega)
  have hln : l.length ≤ 2000 := by rw [← hl.len]; exact hn
  have HF := Lib.hid fun W0 (hW0 : Ext w W0) (gl gt gs : Nat) (ht : Blk W0 gt 2 #[.int .i64 tick]) (hg : Blk W0 gs 53 #[.slice A1 n1 c1, .int .i64 home, .slice A2 n2 c2, .slice A3 n3 c3]) (hgl : Blk W0 gl 70 #[.slice B m d]) v W (hW : Ext W0 W) (ho : OwnBxs W0.heap.size W v l) =>
    Delete_c W0.heap.size v l 138 #[.pointer (some ⟨gl, 0, none⟩), .pointer (some ⟨gt, 0, none⟩), .pointer (some ⟨gs, 0, none⟩)] (filtB s tick r) W0 W ho (Nat.le_refl _) hW hln Tryz.call138
      (fun x _ W2 hW2 => fil1_c A1 n1 c1 home A2 n2 c2 A3 n3 c3 s tick gl gt gs 2 70 x B m d r W2 (ht.ext hW2) (hg.ext hW2) (hgl.ext hW2) (hs.ext (hW0.trans hW2)) (Sights.ext (hW0.trans hW2) hr))
  change Hid (∀ W0, _ → ∀ gl gt gs, _ → _ → _ → ∀ v W, _ → _ → Calls _ _ _ _ fun e w' => ∃ v', e = .returned v' ∧ OwnBxs _ w' v' (filtL s tick r l) ∧ Ext W0 w') at HF
  generalize filtL s tick r l = R at *
  clear hs hl hr
  go_enter Tryz.func105, Tryz.ntmps105
  go_wp2_with fail
  refine (HC.out _ ext_by).mono ?_
  rintro e W1 ⟨v1, rfl, ho1, h1⟩
  have HF1 := Lib.hid (HF.out _ ext_by (w.heap.size + 1 + 1) (w.heap.size + 1) w.heap.size ((Blk.newAt (by simp)).alloc _) (((Blk.newAt rfl).alloc _).alloc _) (Blk.newAt (by simp)) v1 W1 h1 ho1)
  clear h1 ho1 HF HC
  go_wp2_with fail
  refine HF1.out.mono ?_
  rintro e W2 ⟨v2, rfl, ho2, h2⟩
  have E2 : Ext w W2 := Ext.trans ext_by h2
  have HO := Lib.hid (ho2.mono (base' := w.heap.size) (by simp; omega))
  clear ho2 h2
  go_wp2_with fail
  go_ret
  exact ⟨_, rfl, HO.out, E2⟩
def sgsFrom (s : Sky) : List Sight → Int
  | [] => 0
  | x :: r => if sightErr2 s x = 0 then sgsFrom s r else sightErr2 s x
def sgsErr (s : Sky) (l : List Sight) : Int := if 64 < l.length then 8 else sgsFrom s l
set_option maxRecDepth 4000 in
set_option maxHeartbeats 1000000 in
theorem oCheckSights_c (A1 : Option Addr) (n1 c1 : Nat) (home : Int) (A2 : Option Addr) (n2 c2 : Nat) (A3 : Option Addr) (n3 c3 : Nat) (s : Sky) (A : Option Addr) (n c : Nat) (l : List Sight) (w : World) (hs : IsSky w A1 n1 home A2 n2 A3 n3 s) (hl : Sights w A n l) :
    Calls Tryz.prog 104 #[.agg #[.slice A1 n1 c1, .int .i64 home, .slice A2 n2 c2, .slice A3 n3 c3], .slice A n c] w fun e w' => e = .returned (.int .i64 (sgsErr s l)) ∧ Ext w w' := by
  have hn := hl.le
  have HS := Lib.hid fun (x : Sight) W (hW : Ext w W) => CheckSight_c A1 n1 c1 home A2 n2 c2 A3 n3 c3 s x.kind x.station x.catalog x.tick x.dx x.dy x.err x.lo x.hi W (hs.ext hW)
  have HLn := Lib.hid hl.len
  have HL := Lib.hid fun W (hW : Ext w W) => Sights.ext hW hl
  obtain ⟨T, hT⟩ : ∃ T, sgsErr s l = T := ⟨_, rfl⟩
  rw [hT]
  unfold sgsErr at hT
  have HG := Lib.hid hT
  clear hT
  clear hs hl
  by_cases h64 : 64 < n
  · have HT : Hid (T = 8) := by have := HG.out; rw [if_pos (by rw [← HLn.out]; exact h64)] at this; exact this.symm
    go_enter Tryz.func104, Tryz.ntmps104
    go_wp2_with fail
    go_ret
    exact ⟨ret_i (by rw [HT.out]), ext_by⟩
  · have HT : Hid (T = sgsFrom s l) := by have := HG.out; rw [if_neg (by rw [← HLn.out]; exact h64)] at this; exact this.symm
    clear HG
    go_enter Tryz.func104, Tryz.ntmps104
    go_wp2_with fail
    go_loopw [13] (fun i wr => ∃ k : Nat, k ≤ n ∧ i = .int .i64 k ∧ Hid (sgsFrom s (l.drop k) = T) ∧ Ext (w.alloc (.cells #[.slice A1 n1 c1, .int .i64 home, .slice A2 n2 c2, .slice A3 n3 c3] 53)) wr) (fun i _ => n - (intOf i).toNat)
    case atStart => exact ⟨0, Nat.zero_le _, rfl, Lib.hid HT.out.symm, Ext.refl _⟩
    case round =>
      obtain ⟨k, hk, rfl, HI, hb⟩ := hrel
      obtain ⟨hcb, hfb, hzb⟩ := bcell hb
      simp only [World.size_alloc] at hzb
      have hz1 : w.heap.size < wr.heap.size := by omega
      have E : Ext w wr := (Ext.alloc0 _ _).trans hb
      by_cases hlt : k < n
      · obtain ⟨b, off, x, rfl, HD, hxm, hx⟩ := (HL.out wr E).one hlt
        have HX := Lib.hid fun W (hW : Ext wr W) => HS.out x W (E.trans hW)
        change Hid (∀ W, Ext wr W → Calls _ _ _ W fun e w' => e = .returned (.int .i64 (sightErr2 s x)) ∧ _) at HX
        obtain ⟨hx0, hx1, hx2, hx3, hx4, hx5, hx6, hx7, hx8⟩ := hx
        have hi := HI.out
        rw [HD.out, sgsFrom] at hi
        clear HI HD hxm
        generalize sightErr2 s x = M at *
        obtain ⟨kind, st, cat, tk, dx, dy, er, lo, hi'⟩ := x
        dsimp only at hx0 hx1 hx2 hx3 hx4 hx5 hx6 hx7 hx8 HX
        have hbl : b < wr.heap.size := World.block_lt_of_cell? wr _ hx0
        by_cases h0 : M = 0
        · subst h0
          rw [if_pos rfl] at hi
          have Hi := Lib.hid hi
          clear hi
          go_wp2_with fail
          refine (HX.out _ ext_by).mono ?_
          rintro e w1 ⟨rfl, h1⟩
          have E1 : Ext wr w1 := Ext.trans ext_by h1
          clear h1
          go_wp2_with fail
          go_roundw
          case rel => exact ⟨k + 1, by omega, by go_num, Hi, hb.trans E1⟩
          case measure => simp [intOf]; omega
        · rw [if_neg h0] at hi
          have Hi := Lib.hid hi
          clear hi
          go_wp2_with fail
          refine (HX.out _ ext_by).mono ?_
          rintro e w1 ⟨rfl, h1⟩
          have E1 : Ext wr w1 := Ext.trans ext_by h1
          clear h1
          go_wp2_with fail
          go_ret
          exact ⟨ret_i Hi.out, E.trans E1⟩
      · have hkn : k = n := by omega
        subst hkn
        have hi := HI.out
        rw [HLn.out, List.drop_length] at hi
        have Hi : Hid (0 = T) := hi
        clear hi HI
        go_wp2_with fail
        go_ret
        exact ⟨ret_i Hi.out, E⟩
end Go.Proofs.YtfniicgoeljmdaaGreat
