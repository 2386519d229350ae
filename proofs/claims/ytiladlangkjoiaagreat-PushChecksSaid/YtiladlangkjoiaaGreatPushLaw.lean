/- The pulls of the bodies, handed out: the program. No condition. What moves a small body in an area: the program. No condition. States, boxes and sets that are valid: the program. No condition. Sets that are valid; states in boxes; boxes in boxes: the program. No condition. Missions, campaigns, and what they do to boxes: the plain law. No condition. -/
import Derived.Test.YtiladlangkjoiaaGreatForceSum
import Derived.Test.YtiladlangkjoiaaGreatScopeIn
import Derived.Test.YtiladlangkjoiaaGreatExcludes3
import Derived.Test.YtiladlangkjoiaaGreatSlices
import Derived.Test.YtiladlangkjoiaaGreatWideLaw
namespace Go.Proofs.YtiladlangkjoiaaGreat
open Go.RowKit Go.Shelf
attribute [local go_sem] Oper.semAt_some

theorem pullsF_get (l : List Body) (home tick : Int) (a : Ar) : ∀ (r : List Body) (j i : Nat), (pullsF l home tick a r j)[i]? = (r[i]?).map fun b => (j + i, pullM b (atM l home ((j + i : Nat) : Int) tick) a)
  | [], _, _ => by simp [pullsF]
  | b :: r, j, 0 => by simp [pullsF]
  | b :: r, j, i + 1 => by
    rw [pullsF, List.getElem?_cons_succ, List.getElem?_cons_succ, pullsF_get l home tick a r (j + 1) i, show j + 1 + i = j + (i + 1) by omega]
theorem pullsM_get {l : List Body} {home tick : Int} {a : Ar} {k : Nat} {x : Body} (h : l[k]? = some x) : (pullsM l home tick a)[k]? = some (k, pullM x (atM l home k tick) a) := by
  unfold pullsM
  rw [pullsF_get, h, Nat.zero_add]; rfl
theorem pullsM_len (l : List Body) (home tick : Int) (a : Ar) : (pullsM l home tick a).length = l.length := pullsF_len _ _ _ _ _ _
theorem take_get {α : Type} {l : List α} {k : Nat} {x : α} (h : l[k]? = some x) : l.take (k + 1) = l.take k ++ [x] := by rw [List.take_add_one, h]; rfl
theorem ext_grown {w w' : World} (h : Ext w w') : w.grownBy w' none := ⟨h.os, h.tape, h.output, h.size, fun i hi _ => h.block i hi⟩
def pullE (p : Nat × Ar) : Array Value := #[.int .i64 p.1, .agg #[.int .i64 p.2.x.lo, .int .i64 p.2.x.hi, .int .i64 p.2.y.lo, .int .i64 p.2.y.hi]]
set_option maxHeartbeats 1000000 in
theorem fPulls_c (A : Option Addr) (n c : Nat) (home tick xl xh yl yh : Int) (w : World) :
    Calls Tryz.prog 310 #[.agg #[.slice A n c, .int .i64 home], .int .i64 tick, .agg #[.int .i64 xl, .int .i64 xh, .int .i64 yl, .int .i64 yh]] w fun e w' => ∃ b1 b2 b3, e = .returned (.func (.func 337) #[] #[.pointer (some ⟨b1, 0, none⟩), .pointer (some ⟨b2, 0, none⟩), .pointer (some ⟨b3, 0, none⟩)]) ∧ Ext w w' ∧ (w.heap.size ≤ b1 ∧ w.heap.size ≤ b2 ∧ w.heap.size ≤ b3) ∧
      Blk w' b1 24 #[.slice A n c, .int .i64 home] ∧ Blk w' b2 2 #[.int .i64 tick] ∧ Blk w' b3 32 #[.int .i64 xl, .int .i64 xh, .int .i64 yl, .int .i64 yh] := by
  go_enter Tryz.func310, Tryz.ntmps310
  go_wp2_with fail
  go_ret
  exact ⟨_, _, _, rfl, by exact ext_by, ⟨by omega, by omega, by omega⟩, ((Blk.newAt rfl).alloc _).alloc _, (Blk.newAt (by simp)).alloc _, Blk.newAt (by simp)⟩

set_option maxRecDepth 100000 in
set_option maxHeartbeats 4000000 in
theorem fPulls_iter (g1 g2 g3 : Nat) (A : Option Addr) (n c : Nat) (home tick : Int) (l : List Body) (a : Ar) (w0 w : World) (hE : Ext w0 w) (hl : Bodies w0 A n l) (hok : ∀ b ∈ l, 0 ≤ b.mu ∧ b.mu ≤ 1125899906842624 ∧ 0 ≤ b.radius ∧ b.radius ≤ 1048576) (hat : ∀ k : Nat, placeP (atM l home k tick)) (ha : SmA 33554432 a)
    (hB1 : Blk w g1 24 #[.slice A n c, .int .i64 home]) (hB2 : Blk w g2 2 #[.int .i64 tick]) (hB3 : Blk w g3 32 #[.int .i64 a.x.lo, .int .i64 a.x.hi, .int .i64 a.y.lo, .int .i64 a.y.hi]) :
    IterOf Tryz.prog 337 #[.pointer (some ⟨g1, 0, none⟩), .pointer (some ⟨g2, 0, none⟩), .pointer (some ⟨g3, 0, none⟩)] pullE w0.heap.size [g1, g2, g3] (pullsM l home tick a) w := by
  intro m lr J Jx W hW hJ hJx hY h0
  have hEW : Ext w0 W := hE.trans hW
  have hlenL := pullsM_len l home tick a
  have hget := fun (k : Nat) (x : Body) (h : l[k]? = some x) => pullsM_get (home := home) (tick := tick) (a := a) h
  have HOK := Lib.hid hok
  have HAT := Lib.hid hat
  have HLN := Lib.hid hl.len
  have HAA := Lib.hid ha
  generalize pullsM l home tick a = L at *
  have hY' : ∀ (pre : List { x // x ∈ L }) (x : { x // x ∈ L }) W1, J pre W1 → pre.length < L.length → YieldAt Fence.wide (m - 1) Tryz.prog lr #[.int .i64 x.1.1, .agg #[.int .i64 x.1.2.x.lo, .int .i64 x.1.2.x.hi, .int .i64 x.1.2.y.lo, .int .i64 x.1.2.y.hi]] W1 fun e W' =>
      (e = .returned (.bool true) ∧ J (pre ++ [x]) W' ∧ KpX w0.heap.size [g1, g2, g3] W1 W') ∨ (e = .returned (.bool false) ∧ Jx (pre ++ [x]) W') := fun pre x W1 h1 h2 => hY pre x W1 h1 h2
  have HY := Lib.hid hY'
  have HG := Lib.hid hget
  have HL := Lib.hid hlenL
  have hn := hl.le
  have Hl := Lib.hid hl
  have HB1 := Lib.hid (hB1.ext hW)
  have HB2 := Lib.hid (hB2.ext hW)
  have HB3 := Lib.hid (hB3.ext hW)
  have H0 := Lib.hid h0
  have HE0 := Lib.hid hEW
  clear hY hY' hB1 hB2 hB3 hget hlenL hok hat ha hE hl h0 hEW
  refine callsIn_of_wp Tryz.func337 rfl trivial ?_
  simp only [Tryz.ntmps337, List.size_toArray, List.length_cons, List.length_nil, Nat.reduceAdd, Nat.reduceSub, Array.replicate_succ, Array.replicate_zero, List.push_toArray, List.append_toArray, List.nil_append, List.cons_append]
  have hc := HB1.out.cell
  have hlt1 := HB1.out.lt
  gi_wp2
  gi_loopw [9] (fun i wr => ∃ (k : Nat) (pre : List { x // x ∈ L }), k ≤ n ∧ i = .int .i64 k ∧ Hid (pre.map Subtype.val = L.take k) ∧ Hid (J pre wr) ∧ Hid (Ext w0 wr) ∧ Hid (Blk wr g1 24 #[.slice A n c, .int .i64 home]) ∧ Hid (Blk wr g2 2 #[.int .i64 tick]) ∧ Hid (Blk wr g3 32 #[.int .i64 a.x.lo, .int .i64 a.x.hi, .int .i64 a.y.lo, .int .i64 a.y.hi])) (fun i _ => n - (intOf i).toNat)
  case atStart => exact ⟨0, [], Nat.zero_le _, rfl, rfl, H0.out, HE0.out, HB1.out, HB2.out, HB3.out⟩
  case round =>
    clear hc hlt1 HB1 HB2 HB3 H0 HE0
    obtain ⟨k, pre, hk, rfl, HP, HJ1, HE1, HB1, HB2, HB3⟩ := hrel
    by_cases hlt : k < n
    · have hkl : k < l.length := by have := HLN.out; omega
      have hx : l[k]? = some l[k] := List.getElem?_eq_getElem hkl
      have hxm := List.getElem_mem hkl
      generalize l[k] = x at *
      have hLk := HG.out k x hx
      have hmem : (k, pullM x (atM l home k tick) a) ∈ L := List.mem_of_getElem? hLk
      obtain ⟨hin, b, off, rfl, hcx⟩ := Hl.out.get hx
      obtain ⟨hd0, hd1, A', n', c', hd2, hl'⟩ := bodyAt.ext HE1.out hcx
      have HOF := Lib.hid fun W (hW : Ext wr W) => fOf_c b off n c home l k x tick A' n' c' W (Bodies.ext (HE1.out.trans hW) Hl.out) hx (hW.cell hd0) (hW.cell hd1) (hW.cell hd2)
      have HPU := Lib.hid fun W => fPull_c x (atM l home k tick) a A' n' c' W (HOK.out x hxm) (HAT.out k) HAA.out
      have Hstep := Lib.hid (take_get hLk)
      have HLEN := Lib.hid (show pre.length < L.length by have h3 := congrArg List.length HP.out; rw [List.length_map, List.length_take] at h3; have := HL.out; have := HLN.out; omega)
      have hc1 := HB1.out.cell
      have hc2 := HB2.out.cell
      have hc3 := HB3.out.cell
      have hl1 := HB1.out.lt
      have hl2 := HB2.out.lt
      have hl3 := HB3.out.lt
      clear hcx hd0 hd1 hd2 hl' hin hx hxm hLk
      gi_wp2
      refine wpIn_region_forced plain_wide 8 (Ext _) (Stable.ext _) (Ext.drew (Ext.refl _)) (by kernel_rfl) (by kernel_rfl) (by kernel_rfl) ?_
      simp only [List.take_succ_cons, List.take_zero, List.drop_succ_cons, List.drop_zero]
      (repeat' (first | (refine bl_off (by rfl) ?_; simp only [putX]) | (apply bl_op; rfl; (intro w1 h1; obtain ⟨hc, hf, hz⟩ := bcell h1; go_simp; (try go_bits); (first | exact ⟨rfl, Ext.refl _⟩ | (apply gives_call; first | (go_at_call 338; exact HOF.out _ ext_by) | (go_at_call 339; exact HPU.out _)) | (go_invoke; go_simp; apply gives_call; first | (go_at_call 338; exact HOF.out _ ext_by) | (go_at_call 339; exact HPU.out _)))); simp only [putX]) | (refine bl_split rfl rfl (fun hx => ?_) (fun hx => ?_) <;> simp only [hx])))
      refine bl_nil ?_
      intro w3 h3
      have hJ3 := hJ pre wr w3 none HJ1.out (ext_grown h3) (by intro r hr; cases hr)
      have HB1' := Lib.hid (HB1.out.ext h3)
      have HB2' := Lib.hid (HB2.out.ext h3)
      have HB3' := Lib.hid (HB3.out.ext h3)
      have HE3 := Lib.hid (HE1.out.trans h3)
      obtain ⟨fn, tmps, assign, body, hy, hR⟩ : YieldAt Fence.wide (m - 1) Tryz.prog lr #[.int .i64 (k : Int), .agg #[.int .i64 (pullM x (atM l home k tick) a).x.lo, .int .i64 (pullM x (atM l home k tick) a).x.hi, .int .i64 (pullM x (atM l home k tick) a).y.lo, .int .i64 (pullM x (atM l home k tick) a).y.hi]] w3 _ := HY.out pre ⟨_, hmem⟩ w3 hJ3 HLEN.out
      clear hc1 hc2 hc3 hl1 hl2 hl3 hJ3 h3 HB1 HB2 HB3 HE1 HJ1
      gi_wp2
      refine ⟨fun h => (by cases h), hR.mono ?_⟩
      rintro e W3 (⟨rfl, hJ4, hk4⟩ | ⟨rfl, hJx4⟩)
      · have HB1 := Lib.hid (hk4.2 g1 (by simp) _ _ HB1'.out)
        have HB2 := Lib.hid (hk4.2 g2 (by simp) _ _ HB2'.out)
        have HB3 := Lib.hid (hk4.2 g3 (by simp) _ _ HB3'.out)
        have HE4 := Lib.hid (Below.trans HE3.out hk4.1)
        have HJ4 := Lib.hid hJ4
        clear hJ4 hk4
        gi_wp2
        go_roundw
        case rel => exact ⟨k + 1, pre ++ [⟨_, hmem⟩], by omega, by go_num, Lib.hid (by rw [List.map_append, HP.out, Hstep.out]; rfl), HJ4, HE4, HB1, HB2, HB3⟩
        case measure => simp [intOf]; omega
      · gi_wp2
        refine bodyPost_ret (results_none rfl _ _ _) rfl ?_
        exact ⟨⟨_, rfl⟩, .inr ⟨pre ++ [⟨_, hmem⟩], by rw [List.map_append, HP.out]; exact (Hstep.out ▸ List.take_prefix (k + 1) L), hJx4⟩⟩
    · obtain rfl : k = n := by omega
      gi_wp2
      go_end0
      refine ⟨⟨_, rfl⟩, .inl ⟨pre, ?_, HJ1.out⟩⟩
      rw [HP.out, List.take_of_length_le (by have := HL.out; have := HLN.out; omega)]
end Go.Proofs.YtiladlangkjoiaaGreat

namespace Go.Proofs.YtiladlangkjoiaaGreat
open Go.RowKit Go.Shelf
attribute [local go_sem] Oper.semAt_some

theorem fAsk_ok {l : List Body} {home : Int} {d : Drf} {tick : Int} {a : Ar} (h : fAskErr l home d tick a = 0) : wldErr ⟨l, home⟩ = 0 ∧ driftErr d = 0 ∧ (0 ≤ tick ∧ tick ≤ 1073741824) ∧ SmA 33554432 a := by
  unfold fAskErr at h
  by_cases h1 : wldErr ⟨l, home⟩ = 0
  · rw [if_pos h1] at h
    by_cases h2 : driftErr d = 0
    · rw [if_pos h2] at h
      cases h3 : within tick 0 1073741824
      · rw [h3] at h; simp at h
      · rw [h3, if_pos rfl] at h
        by_cases h4 : areaErr a = 0
        · rw [if_pos h4] at h
          cases h5 : inPlace a.x && inPlace a.y
          · rw [h5] at h; simp at h
          · have h6 : sp2Err a.x a.y = 0 := by
              unfold areaErr at h4
              by_cases h6 : sp2Err a.x a.y = 0
              · exact h6
              · rw [if_neg h6] at h4; exact absurd h4 h6
            have h7 : spErr a.x = 0 ∧ spErr a.y = 0 := by
              unfold sp2Err at h6
              by_cases h7 : spErr a.x = 0
              · rw [if_pos h7] at h6; exact ⟨h7, h6⟩
              · rw [if_neg h7] at h6; exact absurd h6 h7
            have h8 := spErr_ok.1 h7.1
            have h9 := spErr_ok.1 h7.2
            simp only [inPlace, Bool.and_eq_true, decide_eq_true_eq] at h5
            exact ⟨h1, h2, (within_iff _ _ _).1 h3, ⟨by omega, by omega, by omega⟩, ⟨by omega, by omega, by omega⟩⟩
        · rw [if_neg h4] at h; exact absurd h h4
    · rw [if_neg h2] at h; exact absurd h h2
  · rw [if_neg h1] at h; exact absurd h h1
theorem wld_bodies {l : List Body} {home : Int} (h : wldErr ⟨l, home⟩ = 0) : l ≠ [] ∧ l.length ≤ 8 ∧ ∀ b ∈ l, 0 ≤ b.mu ∧ b.mu ≤ 1125899906842624 ∧ 0 ≤ b.radius ∧ b.radius ≤ 1048576 := by
  obtain ⟨⟨k, _, hk⟩, h2, h3⟩ := wld_ok h
  refine ⟨fun e => by subst e; simp at hk, h2, fun b hb => ?_⟩
  have := body_ok (h3 b hb)
  omega
theorem at_place (l : List Body) (home tick : Int) : ∀ k : Nat, placeP (atM l home k tick) := by
  intro k
  unfold atM
  by_cases h : wldErr ⟨l, home⟩ = 0 ∧ (0 ≤ (k : Int) ∧ (k : Int) < l.length) ∧ within tick 0 1073741824 = true
  · rw [if_pos h]
    have hk : k < l.length := by omega
    have hb := body_ok ((wld_ok h.1).2.2 l[k] (List.getElem_mem hk))
    have hm := hb.2.2.2.2 _ (trackAt_mem hb.1 tick)
    rw [Int.toNat_natCast, List.getD_eq_getElem?_getD, List.getElem?_eq_getElem hk, Option.getD_some]
    generalize trackAt _ _ = p at *
    unfold near within at hm
    simp only [Bool.and_eq_true, decide_eq_true_eq] at hm
    unfold placeP
    omega
  · rw [if_neg h]
    unfold placeP
    dsimp only
    omega

theorem fSum2_c (a b : Ar) (B : Nat) (T : TypeId) (W : World) (ha : SmA 18014398509481984 a) (hb : SmA 18014398509481984 b) (hB : Blk W B T #[.int .i64 a.x.lo, .int .i64 a.x.hi, .int .i64 a.y.lo, .int .i64 a.y.hi, .int .i64 b.x.lo, .int .i64 b.x.hi, .int .i64 b.y.lo, .int .i64 b.y.hi]) :
    Calls Tryz.prog 311 #[.slice (some ⟨B, 0, none⟩) 2 2] W fun e w' => e = .returned (arV (sumA a b)) ∧ Ext W w' := by
  have z : SmA 0 ⟨⟨0, 0⟩, ⟨0, 0⟩⟩ := by simp [SmA, Sm]
  have h := fSum_c (some ⟨B, 0, none⟩) 2 2 [a, b] W (ar_slice [a, b] hB (by simp)) (by intro s hs; simp only [List.mem_cons, List.not_mem_nil, or_false] at hs; rcases hs with rfl | rfl; exact ha.mono (by omega); exact hb.mono (by omega)) (by
    intro k
    rcases k with _ | _ | k
    · exact z.mono (by omega)
    · exact (z.add ha).mono (by omega)
    · simp only [List.take_succ_cons, List.take_nil]; exact ((z.add ha).add hb).mono (by omega))
  have e : ([a, b] : List Ar).foldl sumA ⟨⟨0, 0⟩, ⟨0, 0⟩⟩ = sumA a b := by simp only [List.foldl_cons, List.foldl_nil, sumA_zero]
  rw [e] at h
  exact h
theorem fSum3_c (a b c : Ar) (B : Nat) (T : TypeId) (W : World) (ha : SmA 18014398509481984 a) (hb : SmA 18014398509481984 b) (hc : SmA 18014398509481984 c) (hB : Blk W B T #[.int .i64 a.x.lo, .int .i64 a.x.hi, .int .i64 a.y.lo, .int .i64 a.y.hi, .int .i64 b.x.lo, .int .i64 b.x.hi, .int .i64 b.y.lo, .int .i64 b.y.hi, .int .i64 c.x.lo, .int .i64 c.x.hi, .int .i64 c.y.lo, .int .i64 c.y.hi]) :
    Calls Tryz.prog 311 #[.slice (some ⟨B, 0, none⟩) 3 3] W fun e w' => e = .returned (arV (sumA (sumA a b) c)) ∧ Ext W w' := by
  have z : SmA 0 ⟨⟨0, 0⟩, ⟨0, 0⟩⟩ := by simp [SmA, Sm]
  have h := fSum_c (some ⟨B, 0, none⟩) 3 3 [a, b, c] W (ar_slice [a, b, c] hB (by simp)) (by intro s hs; simp only [List.mem_cons, List.not_mem_nil, or_false] at hs; rcases hs with rfl | rfl | rfl; exact ha.mono (by omega); exact hb.mono (by omega); exact hc.mono (by omega)) (by
    intro k
    rcases k with _ | _ | _ | k
    · exact z.mono (by omega)
    · exact (z.add ha).mono (by omega)
    · exact ((z.add ha).add hb).mono (by omega)
    · simp only [List.take_succ_cons, List.take_nil]; exact (((z.add ha).add hb).add hc).mono (by omega))
  have e : ([a, b, c] : List Ar).foldl sumA ⟨⟨0, 0⟩, ⟨0, 0⟩⟩ = sumA (sumA a b) c := by simp only [List.foldl_cons, List.foldl_nil, sumA_zero]
  rw [e] at h
  exact h
set_option maxRecDepth 100000 in
set_option maxHeartbeats 8000000 in
theorem fOver_ok (A : Option Addr) (n c : Nat) (home : Int) (l : List Body) (d : Drf) (tick : Int) (a : Ar) (w : World) (hl : Bodies w A n l) (h0 : fAskErr l home d tick a = 0) :
    Calls Tryz.prog 274 #[.agg #[.slice A n c, .int .i64 home], .agg #[.int .i64 d.light.lo, .int .i64 d.light.hi, .int .i64 d.heat.lo, .int .i64 d.heat.hi, .int .i64 d.gas], .int .i64 tick, .agg #[.int .i64 a.x.lo, .int .i64 a.x.hi, .int .i64 a.y.lo, .int .i64 a.y.hi]] w fun e w' =>
      e = .returned (.tuple #[arV (overA l home d tick a), .int .i64 0]) ∧ Ext w w' := by
  obtain ⟨k1, k2, k3, k4⟩ := fAsk_ok h0
  obtain ⟨m1, m2, m3⟩ := wld_bodies k1
  have hgas := gasM_sm k2
  have hdr := driftErr_ok k2
  have H := Lib.hid fun W (hW : Ext w W) => fAsked_c A n c home l d.light.lo d.light.hi d.heat.lo d.heat.hi d.gas tick a.x.lo a.x.hi a.y.lo a.y.hi W (Bodies.ext hW hl)
  have HIT := Lib.hid fun g1 g2 g3 W (hE : Ext w W) => fPulls_iter g1 g2 g3 A n c home tick l a w W hE hl m3 (at_place l home tick) k4
  have HPL := Lib.hid fun W => fPulls_c A n c home tick a.x.lo a.x.hi a.y.lo a.y.hi W
  have hacc := over_acc (l := l) home d tick a m1
  have hps : ∀ p ∈ pullsM l home tick a, SmA 1048576 p.2 := pullsF_sm l home tick a l 0
  have hlen : (pullsM l home tick a).length ≤ 8 := by rw [pullsM_len]; exact m2
  have HLI := Lib.hid fun (s : Ar) W => fLight_c d s W
  have HHE := Lib.hid fun (s : Ar) W => fHeat_c d s W
  rw [show fAskErr l home d tick ⟨⟨a.x.lo, a.x.hi⟩, ⟨a.y.lo, a.y.hi⟩⟩ = 0 from h0] at H
  generalize pullsM l home tick a = L at *
  obtain ⟨T, hT⟩ : ∃ T, overA l home d tick a = T := ⟨_, rfl⟩
  rw [hT] at hacc ⊢
  obtain ⟨⟨xl, xh⟩, yl, yh⟩ := a
  have HD : Hid (∃ q, d = q) := Lib.hid ⟨d, rfl⟩
  obtain ⟨DL, hDL⟩ : ∃ f : Ar → Ar, f = lightM d := ⟨_, rfl⟩
  obtain ⟨DH, hDH⟩ : ∃ f : Ar → Ar, f = heatM d := ⟨_, rfl⟩
  have HACC : Hid (L.foldl (accP d) (gasM d) = T) := hacc
  have HPS := Lib.hid hps
  have HLE := Lib.hid hlen
  have HGS := Lib.hid hgas
  clear hT hacc hps hlen hgas k1 k2 k3 k4 m1 m2 m3 h0 hl HD hDL hDH
  refine (callsIn_wide (n := 6)).1 (callsIn_of_wp_marks Tryz.func274 rfl trivial ?_)
  simp only [Tryz.ntmps274, List.size_toArray, List.length_cons, List.length_nil, Nat.reduceAdd, Nat.reduceSub, Array.replicate_succ, Array.replicate_zero, List.push_toArray, List.append_toArray, List.nil_append, List.cons_append]
  refine wpIn_wide.2 ?_
  obtain ⟨hd1, hd2, hd3, hd4, hd5⟩ := hdr
  dsimp only at H HPL
  go_wp2_with fail
  refine (H.out _ ext_by).mono ?_
  rintro e w1 ⟨rfl, h1⟩
  obtain ⟨hc_w1, hf_w1, hz_w1⟩ := bcell h1; (try simp only [szA] at hz_w1); (try have := wz0 w w1); (try have := wz1 w w1); (try have := wz2 w w1); (try have := wz3 w w1); (try have := wz4 w w1)
  go_wp2_with fail
  refine (HPL.out _).mono ?_
  rintro e w2 ⟨g1, g2, g3, rfl, h2, hg, hB1, hB2, hB3⟩
  obtain ⟨hc_w2, hf_w2, hz_w2⟩ := bcell h2; (try simp only [szA] at hz_w2); (try have := wz0 w w2); (try have := wz1 w w2); (try have := wz2 w w2); (try have := wz3 w w2); (try have := wz4 w w2)
  go_wp2_with fail
  have hBD : Blk w2 (w.heap.size + 1) 52 #[.int .i64 d.light.lo, .int .i64 d.light.hi, .int .i64 d.heat.lo, .int .i64 d.heat.hi, .int .i64 d.gas] := Blk.ext ((((Blk.ext (((Blk.newAt (by simp)).alloc _).alloc _) h1).alloc _).alloc _)) h2
  have hB8 : Blk w2 (w.heap.size + 1 + 1 + 1) 32 #[.int .i64 0, .int .i64 0, .int .i64 0, .int .i64 0] := Blk.ext (((Blk.ext (Blk.newAt (by simp)) h1).alloc _).alloc _) h2
  have hB12 : Blk w2 (w1.heap.size + 1) 32 #[.int .i64 (gasM d).x.lo, .int .i64 (gasM d).x.hi, .int .i64 (gasM d).y.lo, .int .i64 (gasM d).y.hi] := Blk.ext (Blk.newAt (by simp)) h2
  have e2 : Ext w w2 := ext_by
  obtain ⟨b12, h12⟩ : ∃ b, b = w1.heap.size + 1 := ⟨_, rfl⟩
  rw [← h12] at hB12
  rw [← h12]
  have o1 : w.heap.size + 1 + 1 + 1 < b12 := by omega
  have o2 : b12 < w2.heap.size := hB12.lt
  have o3 : b12 ≠ g1 ∧ b12 ≠ g2 ∧ b12 ≠ g3 := by simp only [World.size_alloc] at hg; omega
  have hit := HIT.out g1 g2 g3 w2 e2 hB1 hB2 hB3
  clear h1 h2 hc_w1 hf_w1 hz_w1 hc_w2 hf_w2 hg h12 HIT HPL H hB1 hB2 hB3
  refine wp_range_box2 (nb := w.heap.size) hit rfl Tryz.call337 (by omega) (fun _ => rfl)
    (fun pre W => ((∀ p ∈ pre, p ∈ L) ∧ Ext w W) ∧ Blk W (w.heap.size + 1) 52 #[.int .i64 d.light.lo, .int .i64 d.light.hi, .int .i64 d.heat.lo, .int .i64 d.heat.hi, .int .i64 d.gas] ∧ Blk W (w.heap.size + 1 + 1 + 1) 32 #[.int .i64 0, .int .i64 0, .int .i64 0, .int .i64 0] ∧
      Blk W b12 32 #[.int .i64 (pre.foldl (accP d) (gasM d)).x.lo, .int .i64 (pre.foldl (accP d) (gasM d)).x.hi, .int .i64 (pre.foldl (accP d) (gasM d)).y.lo, .int .i64 (pre.foldl (accP d) (gasM d)).y.hi])
    (fun _ _ _ => False)
    (OwnFrom.and (OwnFrom.and (ownFrom_pure _ _) (ownFrom_ext (by omega))) (OwnFrom.and (ownFrom_blk _ _ _ _) (OwnFrom.and (ownFrom_blk _ _ _ _) (ownFrom_blk _ _ _ _))))
    (fun c => fun s W W' row hs hgr hr => hs)
    ⟨⟨by simp, e2⟩, hBD, hB8, hB12⟩
    (fun x b t => (((t.setIfInBounds 37 (.int .i64 x.1)).setIfInBounds 38 (.agg #[.int .i64 x.2.x.lo, .int .i64 x.2.x.hi, .int .i64 x.2.y.lo, .int .i64 x.2.y.hi])).setIfInBounds 13 (.int .i64 x.1)).setIfInBounds 14 (.pointer (some ⟨b, 0, none⟩))) 32 (fun x => #[.int .i64 x.2.x.lo, .int .i64 x.2.x.hi, .int .i64 x.2.y.lo, .int .i64 x.2.y.hi]) ?assign ?body ?done ?stop
  case assign =>
    intro l n x W K hK
    simp only [List.setIfInBounds_toArray, List.set_cons_zero, List.set_cons_succ] at hK
    simp only [pullE]
    gi_wp2
    exact hK
  case body =>
    rintro lb n pre x bx W hlt hx hb hBx hW ⟨⟨hp, he⟩, hbD, hb8, hb12⟩
    simp only [List.setIfInBounds_toArray, List.set_cons_zero, List.set_cons_succ]
    have hacs := acc_sm d pre (gasM d) 1000 HGS.out (fun p h => HPS.out p (hp p h))
    have hxs := HPS.out x hx
    have hacs2 : SmA 17000000000000000 (pre.foldl (accP d) (gasM d)) := hacs.mono (by have := HLE.out; omega)
    have hnew : (pre ++ [x]).foldl (accP d) (gasM d) = accP d (pre.foldl (accP d) (gasM d)) x := by rw [List.foldl_append]; rfl
    clear hacs
    generalize pre.foldl (accP d) (gasM d) = o at *
    obtain ⟨xi, p⟩ := x
    dsimp only at hxs hBx
    have hsm := hacs2.add hxs
    have HS2 := Lib.hid fun B T W hB => fSum2_c o p B T W (hacs2.mono (by omega)) (hxs.mono (by omega)) hB
    have HS3 := Lib.hid fun B T W hB => fSum3_c (sumA o p) (lightM d p) (heatM d p) B T W (hsm.mono (by omega)) ((lightM_sm d p).mono (by omega)) ((heatM_sm d p).mono (by omega)) hB
    have HLI' := Lib.hid fun W => HLI.out p W
    have HHE' := Lib.hid fun W => HHE.out p W
    have HNEW := Lib.hid hnew
    have HP := Lib.hid hp
    have HX := Lib.hid hx
    obtain ⟨q, hq⟩ : ∃ q, sumA o p = q := ⟨_, rfl⟩
    rw [hq] at HS2 HS3
    have HQ := Lib.hid hq
    clear hq
    obtain ⟨⟨oxl, oxh⟩, oyl, oyh⟩ := o
    obtain ⟨⟨pxl, pxh⟩, pyl, pyh⟩ := p
    dsimp only at hBx hb12 HS2
    have HBD := Lib.hid hbD
    have HB8 := Lib.hid hb8
    have HB12 := Lib.hid hb12
    have HBX := Lib.hid hBx
    have HE := Lib.hid he
    have c12 := hb12.cell
    have cx := hBx.cell
    have l12 := hb12.lt
    have lx := hBx.lt
    have oo : b12 ≠ bx := by omega
    clear hacs2 hxs hsm hnew hp hx hbD hb8 hb12 hBx he
    gi_wp2
    refine ⟨trivial, ?_⟩
    refine ⟨fun h => (by cases h), (CallsIn.inRound lb (callsIn_wide.2 (HS2.out _ 32 _ (Blk.newAt rfl)))).mono ?_⟩
    rintro e w' ⟨rfl, h1⟩
    have E1 : Ext W w' := ext_by
    have C12 := HB12.out.ext E1
    have c12' := C12.cell
    have f12' := C12.frozen
    have l12' := C12.lt
    clear c12 cx l12 lx h1
    have HK1 := Lib.hid (E1.keepsFrom w2.heap.size)
    have HKp := Lib.hid (E1.kpX (nb := w.heap.size) (by omega) [g1, g2, g3])
    have HEw := Lib.hid (ext_set2 (b := b12) (i := 2) (j := 3) (u := .int .i64 q.y.lo) (v := .int .i64 q.y.hi) (ext_set2 (b := b12) (i := 0) (j := 1) (u := .int .i64 q.x.lo) (v := .int .i64 q.x.hi) (HE.out.trans E1) (by omega)) (by omega))
    have HD4 := Lib.hid (blk_far2 (b := b12) (i := 2) (j := 3) (u := .int .i64 q.y.lo) (v := .int .i64 q.y.hi) (blk_far2 (b := b12) (i := 0) (j := 1) (u := .int .i64 q.x.lo) (v := .int .i64 q.x.hi) (HBD.out.ext E1) (by omega)) (by omega))
    have H84 := Lib.hid (blk_far2 (b := b12) (i := 2) (j := 3) (u := .int .i64 q.y.lo) (v := .int .i64 q.y.hi) (blk_far2 (b := b12) (i := 0) (j := 1) (u := .int .i64 q.x.lo) (v := .int .i64 q.x.hi) (HB8.out.ext E1) (by omega)) (by omega))
    have HX4 := Lib.hid (blk_far2 (b := b12) (i := 2) (j := 3) (u := .int .i64 q.y.lo) (v := .int .i64 q.y.hi) (blk_far2 (b := b12) (i := 0) (j := 1) (u := .int .i64 q.x.lo) (v := .int .i64 q.x.hi) (HBX.out.ext E1) (by omega)) (by omega))
    have H124 : Hid (Blk ((((w'.setCell ⟨b12, 0, none⟩ (.int .i64 q.x.lo)).setCell ⟨b12, 1, none⟩ (.int .i64 q.x.hi)).setCell ⟨b12, 2, none⟩ (.int .i64 q.y.lo)).setCell ⟨b12, 3, none⟩ (.int .i64 q.y.hi)) b12 32 #[.int .i64 q.x.lo, .int .i64 q.x.hi, .int .i64 q.y.lo, .int .i64 q.y.hi]) := blk_set2 (blk_set2 C12 rfl) rfl
    have HKs : Hid (KeepsFrom w2.heap.size W ((((w'.setCell ⟨b12, 0, none⟩ (.int .i64 q.x.lo)).setCell ⟨b12, 1, none⟩ (.int .i64 q.x.hi)).setCell ⟨b12, 2, none⟩ (.int .i64 q.y.lo)).setCell ⟨b12, 3, none⟩ (.int .i64 q.y.hi))) := HK1.out.trans (((KeepsOthers.setCell _ _ _).from _).trans (((KeepsOthers.setCell _ _ _).from _).trans (((KeepsOthers.setCell _ _ _).from _).trans ((KeepsOthers.setCell _ _ _).from _))))
    have HKq : Hid (KpX w.heap.size [g1, g2, g3] W ((((w'.setCell ⟨b12, 0, none⟩ (.int .i64 q.x.lo)).setCell ⟨b12, 1, none⟩ (.int .i64 q.x.hi)).setCell ⟨b12, 2, none⟩ (.int .i64 q.y.lo)).setCell ⟨b12, 3, none⟩ (.int .i64 q.y.hi))) :=
      (((HKp.out.set (by dsimp only; omega) (by simp; omega) _).set (by dsimp only; omega) (by simp; omega) _).set (by dsimp only; omega) (by simp; omega) _).set (by dsimp only; omega) (by simp; omega) _
    have Hpp : Hid (∀ p ∈ pre ++ [(xi, (⟨⟨pxl, pxh⟩, ⟨pyl, pyh⟩⟩ : Ar))], p ∈ L) := by
      intro v hv
      rcases List.mem_append.1 hv with h | h
      · exact HP.out v h
      · simp at h; subst h; exact HX.out
    by_cases hxi : xi = 0
    · have hxz : ((xi : Int) == 0) = true := by simp [hxi]
      have hacc : accP d ⟨⟨oxl, oxh⟩, ⟨oyl, oyh⟩⟩ (xi, ⟨⟨pxl, pxh⟩, ⟨pyl, pyh⟩⟩) = sumA (sumA (sumA ⟨⟨oxl, oxh⟩, ⟨oyl, oyh⟩⟩ ⟨⟨pxl, pxh⟩, ⟨pyl, pyh⟩⟩) (lightM d ⟨⟨pxl, pxh⟩, ⟨pyl, pyh⟩⟩)) (heatM d ⟨⟨pxl, pxh⟩, ⟨pyl, pyh⟩⟩) := by rw [accP, if_pos hxi]
      have HAC := Lib.hid hacc
      clear hxi hacc
      gi_wp2
      refine name_world _ ?_
      intro W4 hW4
      rw [← hW4] at HEw HD4 H84 HX4 H124 HKs HKq
      clear hW4 c12' f12' l12' C12 E1 HK1 HKp
      have cd := HD4.out.cell
      have cx := HX4.out.cell
      have c12 := H124.out.cell
      have ld := HD4.out.lt
      have lx := HX4.out.lt
      have l12 := H124.out.lt
      refine wpIn_region_forced (plain_round lb) 7 (Ext _) (Stable.ext _) (Ext.drew (Ext.refl _)) (by kernel_rfl) (by kernel_rfl) (by kernel_rfl) ?_
      simp only [List.take_succ_cons, List.take_zero, List.drop_succ_cons, List.drop_zero]
      (repeat' (first | (refine bl_off (by rfl) ?_; simp only [putX]) | (apply bl_op; rfl; (intro w1 h1; obtain ⟨hc, hf, hz⟩ := bcell h1; go_simp; (try go_bits); (first | exact ⟨rfl, Ext.refl _⟩ | (apply gives_call; first | (go_at_call 312; exact HLI'.out _) | (go_at_call 313; exact HHE'.out _)) | (go_invoke; go_simp; apply gives_call; first | (go_at_call 312; exact HLI'.out _) | (go_at_call 313; exact HHE'.out _)))); simp only [putX]) | (refine bl_split rfl rfl (fun hx => ?_) (fun hx => ?_) <;> simp only [hx])))
      refine bl_nil ?_
      intro w5 h5
      have F12 := H124.out.ext h5
      have c12' := F12.cell
      have f12' := F12.frozen
      have l12' := F12.lt
      have HD5 := Lib.hid (HD4.out.ext h5)
      have H85 := Lib.hid (H84.out.ext h5)
      have HE5 := Lib.hid (HEw.out.trans h5)
      have HK5 := Lib.hid (HKs.out.trans (h5.keepsFrom w2.heap.size))
      have HQ5 := Lib.hid (HKq.out.ext h5 (Nat.le_trans (by omega : w.heap.size ≤ b12) (Nat.le_of_lt l12)))
      clear cd cx c12 ld lx l12 h5 HKs HKq HEw HD4 H84 HX4 H124
      have HF := Lib.hid F12
      clear F12
      gi_wp2
      refine ⟨trivial, ?_⟩
      refine ⟨fun h => (by cases h), (CallsIn.inRound lb (callsIn_wide.2 (HS3.out _ 32 _ (Blk.newAt rfl)))).mono ?_⟩
      rintro e w6 ⟨rfl, h6⟩
      have E6 : Ext w5 w6 := ext_by
      have G12 := HF.out.ext E6
      have GD := Lib.hid (HD5.out.ext E6)
      have G8 := Lib.hid (H85.out.ext E6)
      have GE := Lib.hid (HE5.out.trans E6)
      have GK := Lib.hid (HK5.out.trans (E6.keepsFrom w2.heap.size))
      have GQ := Lib.hid (HQ5.out.ext E6 (Nat.le_trans (by omega : w.heap.size ≤ b12) (Nat.le_of_lt l12')))
      clear c12' f12' l12' h6 HF HD5 H85 HE5 HK5 HQ5 E6
      have c12 := G12.cell
      have f12 := G12.frozen
      have l12 := G12.lt
      generalize hqq : sumA (sumA q (lightM d ⟨⟨pxl, pxh⟩, ⟨pyl, pyh⟩⟩)) (heatM d ⟨⟨pxl, pxh⟩, ⟨pyl, pyh⟩⟩) = qq at *
      have HQQ := Lib.hid hqq
      clear hqq
      gi_wp2
      refine ⟨GK.out.trans (((KeepsOthers.setCell _ _ _).from _).trans (((KeepsOthers.setCell _ _ _).from _).trans (((KeepsOthers.setCell _ _ _).from _).trans ((KeepsOthers.setCell _ _ _).from _)))),
        (((GQ.out.set (by dsimp only; omega) (by simp; omega) _).set (by dsimp only; omega) (by simp; omega) _).set (by dsimp only; omega) (by simp; omega) _).set (by dsimp only; omega) (by simp; omega) _,
        ⟨Hpp.out, ext_set2 (ext_set2 GE.out (by omega)) (by omega)⟩, blk_far2 (blk_far2 GD.out (by omega)) (by omega), blk_far2 (blk_far2 G8.out (by omega)) (by omega), ?_⟩
      rw [HNEW.out, HAC.out, HQ.out, HQQ.out]
      exact blk_set2 (blk_set2 G12 rfl) rfl
    · have hxz : ((xi : Int) == 0) = false := by simp; omega
      have hacc : accP d ⟨⟨oxl, oxh⟩, ⟨oyl, oyh⟩⟩ (xi, ⟨⟨pxl, pxh⟩, ⟨pyl, pyh⟩⟩) = sumA ⟨⟨oxl, oxh⟩, ⟨oyl, oyh⟩⟩ ⟨⟨pxl, pxh⟩, ⟨pyl, pyh⟩⟩ := by rw [accP, if_neg hxi]
      have HAC := Lib.hid hacc
      clear hxi hacc
      gi_wp2
      refine ⟨HKs.out, HKq.out, ⟨Hpp.out, HEw.out⟩, HD4.out, H84.out, ?_⟩
      rw [HNEW.out, HAC.out, HQ.out]
      exact H124.out
  case done =>
    rintro D W hD ⟨⟨hp, he⟩, hbD, hb8, hb12⟩ hK
    rw [HACC.out] at hb12
    obtain ⟨⟨txl, txh⟩, tyl, tyh⟩ := T
    dsimp only at hb12
    have c8 := hb8.cell
    have f8 := hb8.frozen
    have l8 := hb8.lt
    have c12 := hb12.cell
    have l12 := hb12.lt
    have n1 : w.heap.size + 1 + 1 + 1 ≠ D := by omega
    dsimp only
    go_wp2_with fail
    refine ⟨by simp, .inl ⟨_, _, rfl, run_takeDeferred (by rw [Below.heap_setCell _ _ _ _ (fun e => n1 e.symm), Below.heap_setCell _ _ _ _ (fun e => n1 e.symm), Below.heap_setCell _ _ _ _ (fun e => n1 e.symm), Below.heap_setCell _ _ _ _ (fun e => n1 e.symm)]; exact hK), ?_⟩⟩
    have hB6 := (Blk.put (o := Obj.deferred none) ((((hb8.set_ 0 (.int .i64 txl)).set_ 1 (.int .i64 txh)).set_ 2 (.int .i64 tyl)).set_ 3 (.int .i64 tyh)) n1).cell
    refine ⟨_, ?_, rfl, Ext.put (ext_set2 (ext_set2 he (by omega)) (by omega)) (by omega)⟩
    simp only [results, Tryz.results274]
    go_simp
  case stop => exact fun D c pre W h1 h2 h3 => h3.elim
end Go.Proofs.YtiladlangkjoiaaGreat

namespace Go.Proofs.YtiladlangkjoiaaGreat
open Go.RowKit

def stErr (s : St) : Int := if within s.x (-33554432) 33554432 && within s.y (-33554432) 33554432 && within s.u (-1048576) 1048576 && within s.v (-1048576) 1048576 then 0 else 2
theorem stErr_two (s : St) : stErr s = 0 ∨ stErr s = 2 := by unfold stErr; split <;> simp
theorem stErr_ok {s : St} : stErr s = 0 ↔ (-33554432 ≤ s.x ∧ s.x ≤ 33554432) ∧ (-33554432 ≤ s.y ∧ s.y ≤ 33554432) ∧ (-1048576 ≤ s.u ∧ s.u ≤ 1048576) ∧ -1048576 ≤ s.v ∧ s.v ≤ 1048576 := by
  unfold stErr
  by_cases h : (within s.x (-33554432) 33554432 && within s.y (-33554432) 33554432 && within s.u (-1048576) 1048576 && within s.v (-1048576) 1048576) = true
  · rw [if_pos h]
    simp only [within, Bool.and_eq_true, decide_eq_true_eq] at h
    exact ⟨fun _ => by omega, fun _ => rfl⟩
  · rw [if_neg h]
    simp only [within, Bool.and_eq_true, decide_eq_true_eq] at h
    exact ⟨fun h => (by cases h), fun q => absurd (by omega) h⟩
def fullB (b : Bx) : Bool := decide (b.x.lo ≤ b.x.hi) && decide (b.y.lo ≤ b.y.hi) && decide (b.u.lo ≤ b.u.hi) && decide (b.v.lo ≤ b.v.hi)
theorem fullB_iff {b : Bx} : fullB b = true ↔ b.x.lo ≤ b.x.hi ∧ b.y.lo ≤ b.y.hi ∧ b.u.lo ≤ b.u.hi ∧ b.v.lo ≤ b.v.hi := by simp only [fullB, Bool.and_eq_true, decide_eq_true_eq, and_assoc]
def lowS (b : Bx) : St := ⟨b.x.lo, b.y.lo, b.u.lo, b.v.lo⟩
def highS (b : Bx) : St := ⟨b.x.hi, b.y.hi, b.u.hi, b.v.hi⟩
def bxErr (b : Bx) : Int := if fullB b then max (stErr (lowS b)) (stErr (highS b)) else 2
def spanAt (b : Bx) (k : Nat) (X Y : Int) : Prop := (k = 0 ∧ X = b.x.lo ∧ Y = b.x.hi) ∨ (k = 1 ∧ X = b.y.lo ∧ Y = b.y.hi) ∨ (k = 2 ∧ X = b.u.lo ∧ Y = b.u.hi) ∨ (k = 3 ∧ X = b.v.lo ∧ Y = b.v.hi)
theorem span_some (b : Bx) {k : Nat} (h : k < 4) : ∃ X Y, spanAt b k X Y := by
  unfold spanAt
  rcases (show k = 0 ∨ k = 1 ∨ k = 2 ∨ k = 3 by omega) with rfl | rfl | rfl | rfl
  · exact ⟨_, _, .inl ⟨rfl, rfl, rfl⟩⟩
  · exact ⟨_, _, .inr (.inl ⟨rfl, rfl, rfl⟩)⟩
  · exact ⟨_, _, .inr (.inr (.inl ⟨rfl, rfl, rfl⟩))⟩
  · exact ⟨_, _, .inr (.inr (.inr ⟨rfl, rfl, rfl⟩))⟩
theorem span_ix {b : Bx} {k : Nat} {X Y : Int} (h : spanAt b k X Y) : ∀ W, (Instr.index 227 (.agg #[.int .i64 b.x.lo, .int .i64 b.x.hi, .int .i64 b.y.lo, .int .i64 b.y.hi, .int .i64 b.u.lo, .int .i64 b.u.hi, .int .i64 b.v.lo, .int .i64 b.v.hi]) (.int .i64 (k : Int))).run Tryz.prog W = .ok (.agg #[.int .i64 X, .int .i64 Y]) W := by
  rcases h with ⟨rfl, rfl, rfl⟩ | ⟨rfl, rfl, rfl⟩ | ⟨rfl, rfl, rfl⟩ | ⟨rfl, rfl, rfl⟩ <;> intro W <;> kernel_rfl

set_option maxHeartbeats 400000 in
theorem oWithin_c (a b c : Int) (w : World) :
    Calls Tryz.prog 151 #[.int .i64 a, .int .i64 b, .int .i64 c] w fun e w' => e = .returned (.bool (within a b c)) ∧ Ext w w' := by
  go_enter Tryz.func151, Tryz.ntmps151
  go_wp2
  all_goals go_ret
  all_goals exact ⟨ret_b (by simp [within, *] <;> omega), Ext.refl _⟩
set_option maxHeartbeats 2000000 in
theorem oCheckState_c (x y u v : Int) (w : World) :
    Calls Tryz.prog 115 #[.agg #[.int .i64 x, .int .i64 y, .int .i64 u, .int .i64 v]] w fun e w' => e = .returned (.int .i64 (stErr ⟨x, y, u, v⟩)) ∧ Ext w w' := by
  have H1 := Lib.hid fun W => oWithin_c x (-33554432) 33554432 W
  have H2 := Lib.hid fun W => oWithin_c y (-33554432) 33554432 W
  have H3 := Lib.hid fun W => oWithin_c u (-1048576) 1048576 W
  have H4 := Lib.hid fun W => oWithin_c v (-1048576) 1048576 W
  unfold stErr
  dsimp only
  generalize within x (-33554432) 33554432 = b1 at *
  generalize within y (-33554432) 33554432 = b2 at *
  generalize within u (-1048576) 1048576 = b3 at *
  generalize within v (-1048576) 1048576 = b4 at *
  cases b1
  · go_enter Tryz.func115, Tryz.ntmps115
    go_wp2_with fail
    refine (H1.out _).mono ?_
    rintro e w1 ⟨rfl, h1⟩
    obtain ⟨hc_w1, hf_w1, hz_w1⟩ := bcell h1; (try simp only [szA] at hz_w1); (try have := wz0 w w1); (try have := wz1 w w1); (try have := wz2 w w1); (try have := wz3 w w1); (try have := wz4 w w1)
    go_wp2_with fail
    go_ret
    exact ⟨rfl, ext_by⟩
  · cases b2
    · go_enter Tryz.func115, Tryz.ntmps115
      go_wp2_with fail
      refine (H1.out _).mono ?_
      rintro e w1 ⟨rfl, h1⟩
      obtain ⟨hc_w1, hf_w1, hz_w1⟩ := bcell h1; (try simp only [szA] at hz_w1); (try have := wz0 w w1); (try have := wz1 w w1); (try have := wz2 w w1); (try have := wz3 w w1); (try have := wz4 w w1)
      go_wp2_with fail
      refine (H2.out _).mono ?_
      rintro e w2 ⟨rfl, h2⟩
      obtain ⟨hc_w2, hf_w2, hz_w2⟩ := bcell h2; (try simp only [szA] at hz_w2); (try have := wz0 w w2); (try have := wz1 w w2); (try have := wz2 w w2); (try have := wz3 w w2); (try have := wz4 w w2)
      go_wp2_with fail
      go_ret
      exact ⟨rfl, ext_by⟩
    · cases b3
      · go_enter Tryz.func115, Tryz.ntmps115
        go_wp2_with fail
        refine (H1.out _).mono ?_
        rintro e w1 ⟨rfl, h1⟩
        obtain ⟨hc_w1, hf_w1, hz_w1⟩ := bcell h1; (try simp only [szA] at hz_w1); (try have := wz0 w w1); (try have := wz1 w w1); (try have := wz2 w w1); (try have := wz3 w w1); (try have := wz4 w w1)
        go_wp2_with fail
        refine (H2.out _).mono ?_
        rintro e w2 ⟨rfl, h2⟩
        obtain ⟨hc_w2, hf_w2, hz_w2⟩ := bcell h2; (try simp only [szA] at hz_w2); (try have := wz0 w w2); (try have := wz1 w w2); (try have := wz2 w w2); (try have := wz3 w w2); (try have := wz4 w w2)
        go_wp2_with fail
        refine (H3.out _).mono ?_
        rintro e w3 ⟨rfl, h3⟩
        obtain ⟨hc_w3, hf_w3, hz_w3⟩ := bcell h3; (try simp only [szA] at hz_w3); (try have := wz0 w w3); (try have := wz1 w w3); (try have := wz2 w w3); (try have := wz3 w w3); (try have := wz4 w w3)
        go_wp2_with fail
        go_ret
        exact ⟨rfl, ext_by⟩
      · cases b4
        all_goals
          go_enter Tryz.func115, Tryz.ntmps115
          go_wp2_with fail
          refine (H1.out _).mono ?_
          rintro e w1 ⟨rfl, h1⟩
          obtain ⟨hc_w1, hf_w1, hz_w1⟩ := bcell h1; (try simp only [szA] at hz_w1); (try have := wz0 w w1); (try have := wz1 w w1); (try have := wz2 w w1); (try have := wz3 w w1); (try have := wz4 w w1)
          go_wp2_with fail
          refine (H2.out _).mono ?_
          rintro e w2 ⟨rfl, h2⟩
          obtain ⟨hc_w2, hf_w2, hz_w2⟩ := bcell h2; (try simp only [szA] at hz_w2); (try have := wz0 w w2); (try have := wz1 w w2); (try have := wz2 w w2); (try have := wz3 w w2); (try have := wz4 w w2)
          go_wp2_with fail
          refine (H3.out _).mono ?_
          rintro e w3 ⟨rfl, h3⟩
          obtain ⟨hc_w3, hf_w3, hz_w3⟩ := bcell h3; (try simp only [szA] at hz_w3); (try have := wz0 w w3); (try have := wz1 w w3); (try have := wz2 w w3); (try have := wz3 w w3); (try have := wz4 w w3)
          go_wp2_with fail
          refine (H4.out _).mono ?_
          rintro e w4 ⟨rfl, h4⟩
          obtain ⟨hc_w4, hf_w4, hz_w4⟩ := bcell h4; (try simp only [szA] at hz_w4); (try have := wz0 w w4); (try have := wz1 w w4); (try have := wz2 w w4); (try have := wz3 w w4); (try have := wz4 w w4)
          go_wp2_with fail
          go_ret
          exact ⟨rfl, ext_by⟩
set_option maxHeartbeats 1000000 in
theorem oOf_c (xl xh yl yh ul uh vl vh : Int) (w : World) :
    Calls Tryz.prog 203 #[.agg #[.int .i64 xl, .int .i64 xh, .int .i64 yl, .int .i64 yh, .int .i64 ul, .int .i64 uh, .int .i64 vl, .int .i64 vh]] w fun e w' => e = .returned (.agg #[.int .i64 xl, .int .i64 xh, .int .i64 yl, .int .i64 yh, .int .i64 ul, .int .i64 uh, .int .i64 vl, .int .i64 vh]) ∧ Ext w w' := by
  go_enter Tryz.func203, Tryz.ntmps203
  go_wp2_with fail
  (try simp only [Exit.inBlock, Exit.then]); apply bodyPost_ret; (focus (simp only [results, Tryz.results203]; go_simp; try rfl)); rfl
  exact ⟨rfl, ext_by⟩
set_option maxRecDepth 20000 in
set_option maxHeartbeats 4000000 in
theorem oCheck_c (b : Bx) (w : World) :
    Calls Tryz.prog 128 #[.agg #[.int .i64 b.x.lo, .int .i64 b.x.hi, .int .i64 b.y.lo, .int .i64 b.y.hi, .int .i64 b.u.lo, .int .i64 b.u.hi, .int .i64 b.v.lo, .int .i64 b.v.hi]] w fun e w' => e = .returned (.int .i64 (bxErr b)) ∧ Ext w w' := by
  have HS := Lib.hid fun x y u v W => oCheckState_c x y u v W
  obtain ⟨E1, h1⟩ : ∃ E, stErr (lowS b) = E := ⟨_, rfl⟩
  obtain ⟨E2, h2⟩ : ∃ E, stErr (highS b) = E := ⟨_, rfl⟩
  have t1 := stErr_two (lowS b)
  have t2 := stErr_two (highS b)
  rw [h1] at t1
  rw [h2] at t2
  obtain ⟨R, hR⟩ : ∃ R, bxErr b = R := ⟨_, rfl⟩
  rw [hR]
  have hR2 : (fullB b = true → R = max E1 E2) ∧ (fullB b ≠ true → R = 2) := by
    rw [← hR]; unfold bxErr
    exact ⟨fun h => by rw [if_pos h, h1, h2], fun h => by rw [if_neg h]⟩
  have HR := Lib.hid hR2
  have H1 := Lib.hid h1
  have H2 := Lib.hid h2
  have hix := fun k X Y (h : spanAt b k X Y) => span_ix h
  have hfull : Hid (fullB b = true ↔ b.x.lo ≤ b.x.hi ∧ b.y.lo ≤ b.y.hi ∧ b.u.lo ≤ b.u.hi ∧ b.v.lo ≤ b.v.hi) := fullB_iff
  have hspan := Lib.hid fun k (h : k < 4) => span_some b h
  clear hR hR2 h1 h2
  have HIX := Lib.hid hix
  clear hix
  obtain ⟨⟨xl, xh⟩, ⟨yl, yh⟩, ⟨ul, uh⟩, vl, vh⟩ := b
  dsimp only at HIX hfull hspan
  unfold spanAt at hspan
  dsimp only at hspan
  go_enter Tryz.func128, Tryz.ntmps128
  go_wp2_with fail
  refine (oOf_c _ _ _ _ _ _ _ _ _).mono ?_
  rintro e w1 ⟨rfl, h1⟩
  have e1 : Ext w w1 := ext_by
  have B1 : Blk w1 w.heap.size 48 #[.int .i64 xl, .int .i64 xh, .int .i64 yl, .int .i64 yh, .int .i64 ul, .int .i64 uh, .int .i64 vl, .int .i64 vh] := (Blk.newAt rfl).ext h1
  clear h1
  go_wp2_with fail
  go_loopw [7] (fun i wr => ∃ k : Nat, k ≤ 4 ∧ i = .int .i64 k ∧ Hid ((0 < k → xl ≤ xh) ∧ (1 < k → yl ≤ yh) ∧ (2 < k → ul ≤ uh) ∧ (3 < k → vl ≤ vh)) ∧ Ext w1 wr) (fun i _ => 4 - (intOf i).toNat)
  case atStart => exact ⟨0, Nat.zero_le _, rfl, Lib.hid (by omega), Ext.refl _⟩
  case round =>
    obtain ⟨k, hk, rfl, HI, hb⟩ := hrel
    by_cases hk4 : k < 4
    · obtain ⟨X, Y, hX⟩ := hspan.out k hk4
      have ixk := HIX.out k X Y hX
      have HX := Lib.hid hX
      clear hX
      by_cases c1 : Y < X
      · go_wp2_with fail
        go_ret
        refine ⟨ret_i ?_, ext_by⟩
        have h3 := HR.out.2 (fun h => by have h4 := hfull.out.1 h; have := HX.out; omega)
        exact h3.symm
      · have c2 : X ≤ Y := by omega
        go_wp2_with fail
        go_roundw
        case rel => exact ⟨k + 1, by omega, by go_num, Lib.hid (by have := HX.out; have := HI.out; omega), ext_by⟩
        case measure => simp [intOf]; omega
    · obtain rfl : k = 4 := by omega
      have B2 := B1.ext hb
      have cb := B2.cell
      have lb := B2.lt
      have HRR := Lib.hid (HR.out.1 (hfull.out.2 (by have := HI.out; omega)))
      go_wp2_with fail
      refine wp_region_text (by kernel_rfl) (by kernel_rfl) ?_
      (repeat' (first | (refine bl_off (by rfl) ?_; simp only [putX]) | (apply bl_op; rfl; (intro w1 h1; obtain ⟨hc, hf, hz⟩ := bcell h1; go_simp; (try go_bits); (first | exact ⟨rfl, Ext.refl _⟩ | (apply gives_call; first | (go_at_call 115; exact HS.out _ _ _ _ _)) | (go_invoke; go_simp; apply gives_call; first | (go_at_call 115; exact HS.out _ _ _ _ _)))); simp only [putX]) | (refine bl_split rfl rfl (fun hx => ?_) (fun hx => ?_) <;> simp only [hx])))
      refine bl_nil ?_
      intro w3 h3
      obtain ⟨hc_w3, hf_w3, hz_w3⟩ := bcell h3; (try simp only [szA] at hz_w3); (try have := wz0 w w3); (try have := wz1 w w3); (try have := wz2 w w3); (try have := wz3 w w3); (try have := wz4 w w3)
      go_wp2_with fail
      go_ret
      exact ⟨ret_i (by rw [HRR.out, ← H1.out, ← H2.out]; rfl), ext_by⟩
def zeroB : Bx := ⟨⟨0, 0⟩, ⟨0, 0⟩, ⟨0, 0⟩, ⟨0, 0⟩⟩
end Go.Proofs.YtiladlangkjoiaaGreat

namespace Go.Proofs.YtiladlangkjoiaaGreat
open Go.RowKit

def boxesErr : List Bx → Int
  | [] => 0
  | b :: r => if bxErr b = 0 then boxesErr r else bxErr b
def setErr (l : List Bx) : Int := if 512 < l.length then 8 else boxesErr l
set_option maxRecDepth 20000 in
set_option maxHeartbeats 2000000 in
theorem oCheckSet_c (A : Option Addr) (n c : Nat) (l : List Bx) (w : World) (hl : Bxs w A n l) :
    Calls Tryz.prog 102 #[.slice A n c] w fun e w' => e = .returned (.int .i64 (setErr l)) ∧ Ext w w' := by
  have hn := hl.le
  have hln := Lib.hid hl.len
  by_cases h512 : 512 < n
  · have hs : setErr l = 8 := by rw [setErr, if_pos (by have := hl.len; omega)]
    rw [hs]
    go_enter Tryz.func102, Tryz.ntmps102
    go_wp2_with fail
    go_ret
    exact ⟨rfl, ext_by⟩
  · obtain ⟨T, hT⟩ : ∃ T, setErr l = T := ⟨_, rfl⟩
    rw [hT]
    have hT2 : boxesErr l = T := by rw [← hT, setErr, if_neg (by have := hl.len; omega)]
    have HT := Lib.hid hT2
    clear hT hT2
    go_enter Tryz.func102, Tryz.ntmps102
    go_wp2_with fail
    go_loopw [11] (fun i wr => ∃ k : Nat, k ≤ n ∧ i = .int .i64 k ∧ Hid (boxesErr (l.drop k) = T) ∧ Ext w wr) (fun i _ => n - (intOf i).toNat)
    case atStart => exact ⟨0, Nat.zero_le _, rfl, HT.out, Ext.refl _⟩
    case round =>
      obtain ⟨k, hk, rfl, HI, hb⟩ := hrel
      by_cases hlt : k < n
      · obtain ⟨b, off, x, rfl, HD, hxm, hx⟩ := hl.one hlt
        obtain ⟨hx0, hx1, hx2, hx3, hx4, hx5, hx6, hx7⟩ := bxAt.ext hb hx
        have hbl : b < wr.heap.size := World.block_lt_of_cell? wr _ hx0
        have HC := Lib.hid fun W => oCheck_c x W
        have hi := HI.out
        rw [HD.out, boxesErr] at hi
        generalize bxErr x = E at *
        obtain ⟨⟨xl, xh⟩, ⟨yl, yh⟩, ⟨ul, uh⟩, vl, vh⟩ := x
        dsimp only at hx0 hx1 hx2 hx3 hx4 hx5 hx6 hx7 HC
        by_cases hE : E = 0
        · subst hE
          rw [if_pos rfl] at hi
          have Hi := Lib.hid hi
          clear hi
          go_wp2_with fail
          refine (HC.out _).mono ?_
          rintro e w1 ⟨rfl, h1⟩
          obtain ⟨hc_w1, hf_w1, hz_w1⟩ := bcell h1; (try simp only [szA] at hz_w1); (try have := wz0 w w1); (try have := wz1 w w1); (try have := wz2 w w1); (try have := wz3 w w1); (try have := wz4 w w1)
          go_wp2_with fail
          go_roundw
          case rel => exact ⟨k + 1, by omega, by go_num, Hi, ext_by⟩
          case measure => simp [intOf]; omega
        · rw [if_neg hE] at hi
          have Hi := Lib.hid hi
          clear hi
          go_wp2_with fail
          refine (HC.out _).mono ?_
          rintro e w1 ⟨rfl, h1⟩
          obtain ⟨hc_w1, hf_w1, hz_w1⟩ := bcell h1; (try simp only [szA] at hz_w1); (try have := wz0 w w1); (try have := wz1 w w1); (try have := wz2 w w1); (try have := wz3 w w1); (try have := wz4 w w1)
          go_wp2_with fail
          go_ret
          exact ⟨ret_i Hi.out, ext_by⟩
      · have hkn : k = n := by omega
        have hi := HI.out
        rw [hkn, hln.out, List.drop_length] at hi
        have Hi := Lib.hid hi
        clear hi
        go_wp2_with fail
        go_ret
        exact ⟨ret_i Hi.out, hb⟩
end Go.Proofs.YtiladlangkjoiaaGreat

namespace Go.Proofs.YtiladlangkjoiaaGreat
open Go.RowKit

structure Mis where
  kind : Int
  launch : Int
  arrive : Int
  dur : Int
  mass : Sp
  power : Sp
  mult : Sp
  dir : Vec
  reserve : Bool
  cost : Int
structure Key where
  tick : Int
  line : Sp
structure Camp where
  missions : List Mis
  body : Sp
  fast : Int
  fails : Int
  miss : Int
  ticks : Int
  keys : List Key
def misErr (m : Mis) : Int :=
  if m.kind < 1 ∨ 4 < m.kind then 4
  else if m.launch < 0 ∨ m.arrive ≤ m.launch ∨ 1073741824 < m.arrive ∨ m.dur < 1 ∨ 100 < m.dur then 2
  else if boundErr m.mass 1 1048576 ≠ 0 then boundErr m.mass 1 1048576
  else if boundErr m.power 0 1099511627776 ≠ 0 then boundErr m.power 0 1099511627776
  else if boundErr m.mult 1000 10000 ≠ 0 then boundErr m.mult 1000 10000
  else if (within m.dir.x (-4096) 4096 && within m.dir.y (-4096) 4096) && within m.cost 0 1000 then 0 else 2
theorem misErr_ok {m : Mis} : misErr m = 0 ↔ (1 ≤ m.kind ∧ m.kind ≤ 4) ∧ (0 ≤ m.launch ∧ m.launch < m.arrive ∧ m.arrive ≤ 1073741824 ∧ 1 ≤ m.dur ∧ m.dur ≤ 100) ∧
    (1 ≤ m.mass.lo ∧ m.mass.lo ≤ m.mass.hi ∧ m.mass.hi ≤ 1048576) ∧ (0 ≤ m.power.lo ∧ m.power.lo ≤ m.power.hi ∧ m.power.hi ≤ 1099511627776) ∧ (1000 ≤ m.mult.lo ∧ m.mult.lo ≤ m.mult.hi ∧ m.mult.hi ≤ 10000) ∧
    (-4096 ≤ m.dir.x ∧ m.dir.x ≤ 4096) ∧ (-4096 ≤ m.dir.y ∧ m.dir.y ≤ 4096) ∧ 0 ≤ m.cost ∧ m.cost ≤ 1000 := by
  rw [← boundErr_ok, ← boundErr_ok, ← boundErr_ok]
  unfold misErr
  by_cases h1 : m.kind < 1 ∨ 4 < m.kind
  · rw [if_pos h1]; constructor
    · intro h; cases h
    · omega
  · rw [if_neg h1]
    by_cases h2 : m.launch < 0 ∨ m.arrive ≤ m.launch ∨ 1073741824 < m.arrive ∨ m.dur < 1 ∨ 100 < m.dur
    · rw [if_pos h2]; constructor
      · intro h; cases h
      · omega
    · rw [if_neg h2]
      by_cases h3 : boundErr m.mass 1 1048576 = 0
      · rw [if_neg (by omega)]
        by_cases h4 : boundErr m.power 0 1099511627776 = 0
        · rw [if_neg (by omega)]
          by_cases h5 : boundErr m.mult 1000 10000 = 0
          · rw [if_neg (by omega)]
            by_cases h6 : ((within m.dir.x (-4096) 4096 && within m.dir.y (-4096) 4096) && within m.cost 0 1000) = true
            · rw [if_pos h6]
              simp only [Bool.and_eq_true, within_iff] at h6
              omega
            · rw [if_neg h6]
              simp only [Bool.and_eq_true, within_iff] at h6
              omega
          · rw [if_pos h5]; omega
        · rw [if_pos h4]; omega
      · rw [if_pos h3]; omega
def missErr : List Mis → Int
  | [] => 0
  | m :: l => if misErr m = 0 then missErr l else misErr m
theorem missErr_ok : ∀ {l : List Mis}, missErr l = 0 ↔ ∀ m ∈ l, misErr m = 0
  | [] => by simp [missErr]
  | m :: l => by
    rw [missErr]
    by_cases h : misErr m = 0
    · rw [if_pos h, missErr_ok]; simp [h]
    · rw [if_neg h]; simp [h]
def campErr (c : Camp) : Int :=
  if 6 < c.missions.length then 8
  else if missErr c.missions ≠ 0 then missErr c.missions
  else if boundErr c.body 1 1099511627776 ≠ 0 then boundErr c.body 1 1099511627776
  else if ((within c.fast 1 1048576 && within c.fails 0 3) && within c.miss 0 268435456) && within c.ticks 1 400 then (if 40 < c.keys.length then 8 else 0) else 2
theorem campErr_ok {c : Camp} : campErr c = 0 ↔ c.missions.length ≤ 6 ∧ (∀ m ∈ c.missions, misErr m = 0) ∧ (1 ≤ c.body.lo ∧ c.body.lo ≤ c.body.hi ∧ c.body.hi ≤ 1099511627776) ∧
    (1 ≤ c.fast ∧ c.fast ≤ 1048576) ∧ (0 ≤ c.fails ∧ c.fails ≤ 3) ∧ (0 ≤ c.miss ∧ c.miss ≤ 268435456) ∧ (1 ≤ c.ticks ∧ c.ticks ≤ 400) ∧ c.keys.length ≤ 40 := by
  rw [← boundErr_ok, ← missErr_ok]
  unfold campErr
  by_cases h1 : 6 < c.missions.length
  · rw [if_pos h1]; constructor
    · intro h; cases h
    · omega
  · rw [if_neg h1]
    by_cases h2 : missErr c.missions = 0
    · rw [if_neg (by omega)]
      by_cases h3 : boundErr c.body 1 1099511627776 = 0
      · rw [if_neg (by omega)]
        by_cases h4 : (((within c.fast 1 1048576 && within c.fails 0 3) && within c.miss 0 268435456) && within c.ticks 1 400) = true
        · rw [if_pos h4]
          simp only [Bool.and_eq_true, within_iff] at h4
          by_cases h5 : 40 < c.keys.length
          · rw [if_pos h5]; omega
          · rw [if_neg h5]; omega
        · rw [if_neg h4]
          simp only [Bool.and_eq_true, within_iff] at h4
          omega
      · rw [if_pos h3]; omega
    · rw [if_pos h2]; omega

theorem quot_bdn {n x y : Int} (h0 : 0 ≤ n) (h1 : -n ≤ x) (h2 : x ≤ n) (hy : 0 < y) : -n ≤ fl x y ∧ fl x y ≤ ce x y ∧ ce x y ≤ n := by
  have hny : n ≤ n * y := by have := Int.mul_le_mul_of_nonneg_left (show (1 : Int) ≤ y by omega) h0; omega
  refine ⟨Int.le_ediv_of_mul_le hy (by rw [Int.neg_mul]; omega), fl_le_ce hy, ?_⟩
  have h : -n ≤ (-x) / y := Int.le_ediv_of_mul_le hy (by rw [Int.neg_mul]; omega)
  unfold ce; omega
theorem quotS_in {n m : Int} {a b : Sp} (ha : Sm n a) (hn : n ≤ 1152921504606846976) (hb : Sm m b) (hm : m ≤ 1152921504606846976) (h0 : 0 < b.lo) : Sm n (quotS a b) := by
  have ha' : Sm 1152921504606846976 a := ha.mono hn
  rw [quotS_eq ha' hb hm h0, (mon2_quot ha' h0).corners ha.2.1 hb.2.1]
  obtain ⟨a1, a2, a3⟩ := ha
  obtain ⟨b1, b2, b3⟩ := hb
  have hn0 : 0 ≤ n := by omega
  have q1 := quot_bdn (x := a.lo) (y := b.lo) hn0 (by omega) (by omega) (by omega)
  have q2 := quot_bdn (x := a.lo) (y := b.hi) hn0 (by omega) (by omega) (by omega)
  have q3 := quot_bdn (x := a.hi) (y := b.lo) hn0 (by omega) (by omega) (by omega)
  have q4 := quot_bdn (x := a.hi) (y := b.hi) hn0 (by omega) (by omega) (by omega)
  rw [quotF_pos (by omega) (by omega) (by omega), quotF_pos (by omega) (by omega) (by omega), quotF_pos (by omega) (by omega) (by omega), quotF_pos (by omega) (by omega) (by omega)]
  unfold Sm
  dsimp only
  omega
theorem mulS_four {n m : Int} {a b : Sp} (ha : Sm n a) (hb : Sm m b) (hm0 : 0 ≤ m) (hnm : n * m ≤ 1152921504606846976) (hn : n ≤ 1152921504606846976) (hm : m ≤ 1152921504606846976) :
    mulS a b = ⟨min (min (min (a.lo * b.lo) (a.lo * b.hi)) (a.hi * b.lo)) (a.hi * b.hi), max (max (max (a.lo * b.lo) (a.lo * b.hi)) (a.hi * b.lo)) (a.hi * b.hi)⟩ := by
  rw [mulS_eq ha hb hn hm, (mon2_mul ha hb hm0 hnm).corners ha.2.1 hb.2.1]
  obtain ⟨a1, a2, a3⟩ := ha
  obtain ⟨b1, b2, b3⟩ := hb
  rw [mulF_in hm0 ⟨by omega, by omega⟩ ⟨by omega, by omega⟩ hnm, mulF_in hm0 ⟨by omega, by omega⟩ ⟨by omega, by omega⟩ hnm, mulF_in hm0 ⟨by omega, by omega⟩ ⟨by omega, by omega⟩ hnm, mulF_in hm0 ⟨by omega, by omega⟩ ⟨by omega, by omega⟩ hnm]
theorem mulS_in {n m : Int} {a b : Sp} (ha : Sm n a) (hb : Sm m b) (hm0 : 0 ≤ m) (hnm : n * m ≤ 1152921504606846976) (hn : n ≤ 1152921504606846976) (hm : m ≤ 1152921504606846976) : Sm (n * m) (mulS a b) := by
  rw [mulS_four ha hb hm0 hnm hn hm]
  obtain ⟨a1, a2, a3⟩ := ha
  obtain ⟨b1, b2, b3⟩ := hb
  have q1 := mul_bd2 (n := n) (m := m) (x := a.lo) (y := b.lo) hm0 (by omega) (by omega)
  have q2 := mul_bd2 (n := n) (m := m) (x := a.lo) (y := b.hi) hm0 (by omega) (by omega)
  have q3 := mul_bd2 (n := n) (m := m) (x := a.hi) (y := b.lo) hm0 (by omega) (by omega)
  have q4 := mul_bd2 (n := n) (m := m) (x := a.hi) (y := b.hi) hm0 (by omega) (by omega)
  unfold Sm
  dsimp only
  omega
theorem mulS_comm {n m : Int} {a b : Sp} (ha : Sm n a) (hb : Sm m b) (hn0 : 0 ≤ n) (hm0 : 0 ≤ m) (hnm : n * m ≤ 1152921504606846976) (hn : n ≤ 1152921504606846976) (hm : m ≤ 1152921504606846976) : mulS a b = mulS b a := by
  rw [mulS_four ha hb hm0 hnm hn hm, mulS_four hb ha hn0 (by rw [Int.mul_comm]; exact hnm) hm hn, Int.mul_comm b.lo, Int.mul_comm b.lo, Int.mul_comm b.hi, Int.mul_comm b.hi, Sp.mk.injEq]
  omega
theorem subS_in {n m : Int} {s t : Sp} (h : Sm n s) (k : Sm m t) (hn : 0 ≤ n) (hm : 0 ≤ m) (hnm : n + m ≤ 1152921504606846976) : subS s t = ⟨s.lo - t.hi, s.hi - t.lo⟩ ∧ Sm (n + m) (subS s t) := by
  have e : subS s t = ⟨s.lo - t.hi, s.hi - t.lo⟩ := by unfold subS; rw [subM_small h k hn hm hnm]
  refine ⟨e, ?_⟩
  rw [e]
  unfold Sm at *
  dsimp only
  omega

def zeroA : Ar := ⟨⟨0, 0⟩, ⟨0, 0⟩⟩
def speedsM (h : Vec) (a : Ar) (n : Int) : Ar := ⟨quotS (subS a.x ⟨h.x, h.x⟩) ⟨n, n⟩, quotS (subS a.y ⟨h.y, h.y⟩) ⟨n, n⟩⟩
def slowB (s : Ar) (fast : Int) : Bool := decide (-fast ≤ min s.x.lo s.y.lo) && decide (max s.x.hi s.y.hi ≤ fast)
def slowR (s : Ar) (fast : Int) : Bool := ((decide (-fast ≤ s.x.lo) && decide (s.x.hi ≤ fast)) && decide (-fast ≤ s.y.lo)) && decide (s.y.hi ≤ fast)
theorem slow_eq (s : Ar) (fast : Int) : slowR s fast = slowB s fast := by
  unfold slowR slowB
  rw [Bool.eq_iff_iff]
  simp only [Bool.and_eq_true, decide_eq_true_eq]
  omega
def placesB (a : Ar) : Bool := decide (bxErr ⟨a.x, a.y, ⟨0, 0⟩, ⟨0, 0⟩⟩ = 0)
section
variable (l : List Body) (home : Int)
def spdErr (m : Mis) (a : Ar) : Int := if wldErr ⟨l, home⟩ ≠ 0 then wldErr ⟨l, home⟩ else if misErr m ≠ 0 then misErr m else if placesB a then 0 else 2
def spdA (m : Mis) (a : Ar) : Ar := if spdErr l home m a = 0 then speedsM (atM l home home m.launch) a (m.arrive - m.launch) else zeroA
def reachB (m : Mis) (a : Ar) (fast : Int) : Bool := (decide (spdErr l home m a = 0) && within fast 1 1048576) && slowB (spdA l home m a) fast

def worksB (m : Mis) (tick : Int) : Bool := if m.kind = 3 ∨ m.kind = 4 then within tick m.arrive (m.arrive + m.dur - 1) else decide (tick = m.arrive)
def hitsA (m : Mis) (body : Sp) (b : Bx) : Ar :=
  ⟨quotS (mulS (mulS m.mult m.mass) (subS (speedsM (atM l home home m.launch) ⟨b.x, b.y⟩ (m.arrive - m.launch)).x b.u)) (mulS body ⟨1000, 1000⟩),
   quotS (mulS (mulS m.mult m.mass) (subS (speedsM (atM l home home m.launch) ⟨b.x, b.y⟩ (m.arrive - m.launch)).y b.v)) (mulS body ⟨1000, 1000⟩)⟩
def drawsA (m : Mis) (body : Sp) : Ar := ⟨quotS (mulS m.power ⟨m.dir.x, m.dir.x⟩) body, quotS (mulS m.power ⟨m.dir.y, m.dir.y⟩) body⟩
def minusA (a : Ar) : Ar := ⟨minusS a.x, minusS a.y⟩
def doesA (m : Mis) (body : Sp) (tick : Int) (b : Bx) : Ar :=
  if worksB m tick then (if m.kind = 1 then hitsA l home m body b else if m.kind = 4 then minusA (drawsA m body) else drawsA m body) else zeroA
def askPush (body : Sp) (tick : Int) (b : Bx) : Int :=
  if boundErr body 1 1099511627776 ≠ 0 then boundErr body 1 1099511627776 else if within tick 0 1073741824 then bxErr b else 2
def doesErr (m : Mis) (body : Sp) (tick : Int) (b : Bx) : Int :=
  if wldErr ⟨l, home⟩ ≠ 0 then wldErr ⟨l, home⟩ else if misErr m ≠ 0 then misErr m else askPush body tick b
def doesV (m : Mis) (body : Sp) (tick : Int) (b : Bx) : Ar := if doesErr l home m body tick b = 0 then doesA l home m body tick b else zeroA

def changeA (L : List Mis) (body : Sp) (tick : Int) (b : Bx) : Ar := L.foldl (fun o m => sumA o (doesA l home m body tick b)) zeroA
def pushB (L : List Mis) (body : Sp) (tick : Int) (b : Bx) : Bx :=
  ⟨b.x, b.y, sumS b.u (changeA l home L body tick b).x, sumS b.v (changeA l home L body tick b).y⟩
def aloneB (s : St) : Bx := ⟨⟨s.x, s.x⟩, ⟨s.y, s.y⟩, ⟨s.u, s.u⟩, ⟨s.v, s.v⟩⟩
end
end Go.Proofs.YtiladlangkjoiaaGreat
