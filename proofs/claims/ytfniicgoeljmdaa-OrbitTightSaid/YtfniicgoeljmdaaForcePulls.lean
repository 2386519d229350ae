/- The pulls of the bodies, handed out: the program. No condition. -/
import Derived.Test.YtfniicgoeljmdaaForceSum
import Derived.Test.YtfniicgoeljmdaaForcedIn
import Derived.Test.YtfniicgoeljmdaaExcludes3
namespace Go.Proofs.Ytfniicgoeljmdaa
open Go.RowKit Go.Shelf
attribute [local go_sem] Oper.semAt_some

theorem pullsF_get (l : List Body) (home tick : Int) (a : Ar) : ∀ (r : List Body) (j i : Nat), (pullsF l home tick a r j)[i]? = (r[i]?).map fun b => (j + i, pullM b (atM l home ((j + i : Nat) : Int) tick) a)
  | [], _, _ => by simp [pullsF]
  | b :: r, j, 0 => by simp [pullsF]
  | b :: r, j, i + 1 => by
    rw [pullsF, List.getElem?_cons_succ, List.getElem?_cons_succ, pullsF_get l home tick a r (j + 1) i, show j + 1 + i = j + (i + 1) by omega]
theorem pullsM_get {l : List Body} {home tick : Int} {a : Ar} {k : Nat} {x : Body} (h : l[k]? = some x) : (pullsM l home tick a)[k]? = some (k, pullM x (atM l home k tick) a) := by
  unfold pullsM
  rw [pullsF_get, h, Nat.zero_add]; rfl
theorem pullsM_len (l : List Body) (home tick : Int) (a : Ar) : (pullsM l home tick a).length = l.length := pullsF_len _ _ _ _ _ _
theorem take_get {α : Type} {l : List α} {k : Nat} {x : α} (h : l[k]? = some x) : l.take (k + 1) = l.take k ++ [x] := by rw [List.take_add_one, h]; rfl
theorem ext_grown {w w' : World} (h : Ext w w') : w.grownBy w' none := ⟨h.os, h.tape, h.output, h.size, fun i hi _ => h.block i hi⟩
def pullE (p : Nat × Ar) : Array Value := #[.int .i64 p.1, .agg #[.int .i64 p.2.x.lo, .int .i64 p.2.x.hi, .int .i64 p.2.y.lo, .int .i64 p.2.y.hi]]
set_option maxHeartbeats 1000000 in
theorem fPulls_c (A : Option Addr) (n c : Nat) (home tick xl xh yl yh : Int) (w : World) :
    Calls Try.prog 38 #[.agg #[.slice A n c, .int .i64 home], .int .i64 tick, .agg #[.int .i64 xl, .int .i64 xh, .int .i64 yl, .int .i64 yh]] w fun e w' => ∃ b1 b2 b3, e = .returned (.func (.func 48) #[] #[.pointer (some ⟨b1, 0, none⟩), .pointer (some ⟨b2, 0, none⟩), .pointer (some ⟨b3, 0, none⟩)]) ∧ Ext w w' ∧ (w.heap.size ≤ b1 ∧ w.heap.size ≤ b2 ∧ w.heap.size ≤ b3) ∧
      Blk w' b1 26 #[.slice A n c, .int .i64 home] ∧ Blk w' b2 2 #[.int .i64 tick] ∧ Blk w' b3 84 #[.int .i64 xl, .int .i64 xh, .int .i64 yl, .int .i64 yh] := by
  go_enter Try.func38, Try.ntmps38
  go_wp2_with fail
  go_ret
  exact ⟨_, _, _, rfl, by exact ext_by, ⟨by omega, by omega, by omega⟩, ((Blk.newAt rfl).alloc _).alloc _, (Blk.newAt (by simp)).alloc _, Blk.newAt (by simp)⟩

set_option maxRecDepth 100000 in
set_option maxHeartbeats 4000000 in
theorem fPulls_iter (g1 g2 g3 : Nat) (A : Option Addr) (n c : Nat) (home tick : Int) (l : List Body) (a : Ar) (w0 w : World) (hE : Ext w0 w) (hl : Bodies w0 A n l) (hok : ∀ b ∈ l, 0 ≤ b.mu ∧ b.mu ≤ 1125899906842624 ∧ 0 ≤ b.radius ∧ b.radius ≤ 1048576) (hat : ∀ k : Nat, placeP (atM l home k tick)) (ha : SmA 33554432 a)
    (hB1 : Blk w g1 26 #[.slice A n c, .int .i64 home]) (hB2 : Blk w g2 2 #[.int .i64 tick]) (hB3 : Blk w g3 84 #[.int .i64 a.x.lo, .int .i64 a.x.hi, .int .i64 a.y.lo, .int .i64 a.y.hi]) :
    IterOf Try.prog 48 #[.pointer (some ⟨g1, 0, none⟩), .pointer (some ⟨g2, 0, none⟩), .pointer (some ⟨g3, 0, none⟩)] pullE w0.heap.size [g1, g2, g3] (pullsM l home tick a) w := by
  intro m lr J Jx W hW hJ hJx hY h0
  have hEW : Ext w0 W := hE.trans hW
  have hlenL := pullsM_len l home tick a
  have hget := fun (k : Nat) (x : Body) (h : l[k]? = some x) => pullsM_get (home := home) (tick := tick) (a := a) h
  have HOK := Lib.hid hok
  have HAT := Lib.hid hat
  have HLN := Lib.hid hl.len
  have HAA := Lib.hid ha
  generalize pullsM l home tick a = L at *
  have hY' : ∀ (pre : List { x // x ∈ L }) (x : { x // x ∈ L }) W1, J pre W1 → pre.length < L.length → YieldAt Fence.wide (m - 1) Try.prog lr #[.int .i64 x.1.1, .agg #[.int .i64 x.1.2.x.lo, .int .i64 x.1.2.x.hi, .int .i64 x.1.2.y.lo, .int .i64 x.1.2.y.hi]] W1 fun e W' =>
      (e = .returned (.bool true) ∧ J (pre ++ [x]) W' ∧ KpX w0.heap.size [g1, g2, g3] W1 W') ∨ (e = .returned (.bool false) ∧ Jx (pre ++ [x]) W') := fun pre x W1 h1 h2 => hY pre x W1 h1 h2
  have HY := Lib.hid hY'
  have HG := Lib.hid hget
  have HL := Lib.hid hlenL
  have hn := hl.le
  have Hl := Lib.hid hl
  have HB1 := Lib.hid (hB1.ext hW)
  have HB2 := Lib.hid (hB2.ext hW)
  have HB3 := Lib.hid (hB3.ext hW)
  have H0 := Lib.hid h0
  have HE0 := Lib.hid hEW
  clear hY hY' hB1 hB2 hB3 hget hlenL hok hat ha hE hl h0 hEW
  refine callsIn_of_wp Try.func48 rfl trivial ?_
  simp only [Try.ntmps48, List.size_toArray, List.length_cons, List.length_nil, Nat.reduceAdd, Nat.reduceSub, Array.replicate_succ, Array.replicate_zero, List.push_toArray, List.append_toArray, List.nil_append, List.cons_append]
  have hc := HB1.out.cell
  have hlt1 := HB1.out.lt
  gi_wp2
  gi_loopw [9] (fun i wr => ∃ (k : Nat) (pre : List { x // x ∈ L }), k ≤ n ∧ i = .int .i64 k ∧ Hid (pre.map Subtype.val = L.take k) ∧ Hid (J pre wr) ∧ Hid (Ext w0 wr) ∧ Hid (Blk wr g1 26 #[.slice A n c, .int .i64 home]) ∧ Hid (Blk wr g2 2 #[.int .i64 tick]) ∧ Hid (Blk wr g3 84 #[.int .i64 a.x.lo, .int .i64 a.x.hi, .int .i64 a.y.lo, .int .i64 a.y.hi])) (fun i _ => n - (intOf i).toNat)
  case atStart => exact ⟨0, [], Nat.zero_le _, rfl, rfl, H0.out, HE0.out, HB1.out, HB2.out, HB3.out⟩
  case round =>
    clear hc hlt1 HB1 HB2 HB3 H0 HE0
    obtain ⟨k, pre, hk, rfl, HP, HJ1, HE1, HB1, HB2, HB3⟩ := hrel
    by_cases hlt : k < n
    · have hkl : k < l.length := by have := HLN.out; omega
      have hx : l[k]? = some l[k] := List.getElem?_eq_getElem hkl
      have hxm := List.getElem_mem hkl
      generalize l[k] = x at *
      have hLk := HG.out k x hx
      have hmem : (k, pullM x (atM l home k tick) a) ∈ L := List.mem_of_getElem? hLk
      obtain ⟨hin, b, off, rfl, hcx⟩ := Hl.out.get hx
      obtain ⟨hd0, hd1, A', n', c', hd2, hl'⟩ := bodyAt.ext HE1.out hcx
      have HOF := Lib.hid fun W (hW : Ext wr W) => fOf_c b off n c home l k x tick A' n' c' W (Bodies.ext (HE1.out.trans hW) Hl.out) hx (hW.cell hd0) (hW.cell hd1) (hW.cell hd2)
      have HPU := Lib.hid fun W => fPull_c x (atM l home k tick) a A' n' c' W (HOK.out x hxm) (HAT.out k) HAA.out
      have Hstep := Lib.hid (take_get hLk)
      have HLEN := Lib.hid (show pre.length < L.length by have h3 := congrArg List.length HP.out; rw [List.length_map, List.length_take] at h3; have := HL.out; have := HLN.out; omega)
      have hc1 := HB1.out.cell
      have hc2 := HB2.out.cell
      have hc3 := HB3.out.cell
      have hl1 := HB1.out.lt
      have hl2 := HB2.out.lt
      have hl3 := HB3.out.lt
      clear hcx hd0 hd1 hd2 hl' hin hx hxm hLk
      gi_wp2
      refine wpIn_region_forced plain_wide 8 (Ext _) (Stable.ext _) (Ext.drew (Ext.refl _)) (by kernel_rfl) (by kernel_rfl) (by kernel_rfl) ?_
      simp only [List.take_succ_cons, List.take_zero, List.drop_succ_cons, List.drop_zero]
      (repeat' (first | (refine bl_off (by rfl) ?_; simp only [putX]) | (apply bl_op; rfl; (intro w1 h1; obtain ⟨hc, hf, hz⟩ := bcell h1; go_simp; (try go_bits); (first | exact ⟨rfl, Ext.refl _⟩ | (apply gives_call; first | (go_at_call 49; exact HOF.out _ ext_by) | (go_at_call 50; exact HPU.out _)) | (go_invoke; go_simp; apply gives_call; first | (go_at_call 49; exact HOF.out _ ext_by) | (go_at_call 50; exact HPU.out _)))); simp only [putX]) | (refine bl_split rfl rfl (fun hx => ?_) (fun hx => ?_) <;> simp only [hx])))
      refine bl_nil ?_
      intro w3 h3
      have hJ3 := hJ pre wr w3 none HJ1.out (ext_grown h3) (by intro r hr; cases hr)
      have HB1' := Lib.hid (HB1.out.ext h3)
      have HB2' := Lib.hid (HB2.out.ext h3)
      have HB3' := Lib.hid (HB3.out.ext h3)
      have HE3 := Lib.hid (HE1.out.trans h3)
      obtain ⟨fn, tmps, assign, body, hy, hR⟩ : YieldAt Fence.wide (m - 1) Try.prog lr #[.int .i64 (k : Int), .agg #[.int .i64 (pullM x (atM l home k tick) a).x.lo, .int .i64 (pullM x (atM l home k tick) a).x.hi, .int .i64 (pullM x (atM l home k tick) a).y.lo, .int .i64 (pullM x (atM l home k tick) a).y.hi]] w3 _ := HY.out pre ⟨_, hmem⟩ w3 hJ3 HLEN.out
      clear hc1 hc2 hc3 hl1 hl2 hl3 hJ3 h3 HB1 HB2 HB3 HE1 HJ1
      gi_wp2
      refine ⟨fun h => (by cases h), hR.mono ?_⟩
      rintro e W3 (⟨rfl, hJ4, hk4⟩ | ⟨rfl, hJx4⟩)
      · have HB1 := Lib.hid (hk4.2 g1 (by simp) _ _ HB1'.out)
        have HB2 := Lib.hid (hk4.2 g2 (by simp) _ _ HB2'.out)
        have HB3 := Lib.hid (hk4.2 g3 (by simp) _ _ HB3'.out)
        have HE4 := Lib.hid (Below.trans HE3.out hk4.1)
        have HJ4 := Lib.hid hJ4
        clear hJ4 hk4
        gi_wp2
        go_roundw
        case rel => exact ⟨k + 1, pre ++ [⟨_, hmem⟩], by omega, by go_num, Lib.hid (by rw [List.map_append, HP.out, Hstep.out]; rfl), HJ4, HE4, HB1, HB2, HB3⟩
        case measure => simp [intOf]; omega
      · gi_wp2
        refine bodyPost_ret (results_none rfl _ _ _) rfl ?_
        exact ⟨⟨_, rfl⟩, .inr ⟨pre ++ [⟨_, hmem⟩], by rw [List.map_append, HP.out]; exact (Hstep.out ▸ List.take_prefix (k + 1) L), hJx4⟩⟩
    · obtain rfl : k = n := by omega
      gi_wp2
      go_end0
      refine ⟨⟨_, rfl⟩, .inl ⟨pre, ?_, HJ1.out⟩⟩
      rw [HP.out, List.take_of_length_le (by have := HL.out; have := HLN.out; omega)]
end Go.Proofs.Ytfniicgoeljmdaa
