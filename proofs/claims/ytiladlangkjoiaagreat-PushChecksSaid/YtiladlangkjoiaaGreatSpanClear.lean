/- The corners of two areas, handed out: the program. No condition. Passages that are clear of a distance: the program. No condition. -/
import Derived.Test.YtiladlangkjoiaaGreatIterR
import Derived.Test.YtiladlangkjoiaaGreatScopeIn
import Derived.Test.YtiladlangkjoiaaGreatPairs
import Derived.Test.YtiladlangkjoiaaGreatOwnMis
import Derived.Test.YtiladlangkjoiaaGreatSpanNear
import Derived.Test.YtiladlangkjoiaaGreatForceOps
import Derived.Test.YtiladlangkjoiaaGreatExcludes3
namespace Go.Proofs.YtiladlangkjoiaaGreat
open Go.RowKit Go.Shelf
attribute [local go_sem] Oper.semAt_some

theorem spCorners_c (A : Option Addr) (n c : Nat) (w : World) :
    Calls Tryz.prog 323 #[.slice A n c] w fun e w' => e = .returned (.func (.func 346) #[] #[.pointer (some ⟨w.heap.size, 0, none⟩)]) ∧ Ext w w' ∧ Blk w' w.heap.size 76 #[.slice A n c] := by
  go_enter Tryz.func323, Tryz.ntmps323
  go_wp2_with fail
  go_ret
  exact ⟨rfl, by exact ext_by, Blk.newAt rfl⟩
structure CrI (nb l g g0 gy c : Nat) (a b : Ar) (J : List Vec → World → Prop) (k : Nat) (ds : List Nat) (B : Nat) (W : World) : Prop where
  le : k ≤ 2
  at_ : Hid (J ((cornA a ++ cornA b).take (4 * k)) W)
  hg : Hid (Blk W g 76 #[.slice (some ⟨g0, 0, none⟩) 2 c])
  h0 : Hid (Blk W g0 32 #[.int .i64 a.x.lo, .int .i64 a.x.hi, .int .i64 a.y.lo, .int .i64 a.y.hi, .int .i64 b.x.lo, .int .i64 b.x.hi, .int .i64 b.y.lo, .int .i64 b.y.hi])
  hy : Hid (Blk W gy 209 #[.func (.yield l) #[] #[]])
  sz : B ≤ W.heap.size
  nd : Hid ds.Nodup
  dm : Hid (∀ D ∈ ds, B ≤ D ∧ W.heap[D]? = some (.deferred (some [])))
set_option maxRecDepth 100000 in
set_option maxHeartbeats 8000000 in
theorem spCorners_iter (g g0 c : Nat) (a b : Ar) (nb : Nat) (w : World) (hB : Blk w g 76 #[.slice (some ⟨g0, 0, none⟩) 2 c]) (hB0 : Blk w g0 32 #[.int .i64 a.x.lo, .int .i64 a.x.hi, .int .i64 a.y.lo, .int .i64 a.y.hi, .int .i64 b.x.lo, .int .i64 b.x.hi, .int .i64 b.y.lo, .int .i64 b.y.hi]) (hnb : nb ≤ w.heap.size) :
    IterR Tryz.prog 346 #[.pointer (some ⟨g, 0, none⟩)] vecE (KpE [] nb) (fun _ x _ => x ∈ cornA a ++ cornA b) (fun xs _ => xs = cornA a ++ cornA b) (fun _ _ => True) w := by
  intro q l J Jx W hW hlr hJ hJx hY h0
  obtain ⟨rl, hlr⟩ := hlr
  have hz := hW.size
  have hgl := blk_no_loop (hB.ext hW) hlr
  have hg0l := blk_no_loop (hB0.ext hW) hlr
  have hlW : l < W.heap.size := (Array.getElem?_eq_some_iff.1 hlr).1
  have HY := Lib.hid fun (pre : List Vec) (x : Vec) W1 (m l0 : Nat) (h1 : J pre W1) (h2 : x ∈ cornA a ++ cornA b) => YieldAt.inRound' (l0 := l0) (YieldAt.anyD (F := Fence.wide) rfl m (hY pre x W1 h1 h2))
  have HB := Lib.hid (hB.ext hW)
  have HB0 := Lib.hid (hB0.ext hW)
  have H0 := Lib.hid h0
  obtain ⟨B, hBs⟩ : ∃ B, B = W.heap.size := ⟨_, rfl⟩
  rw [← hBs] at hlW hJ hJx
  have HJ := Lib.hid hJ
  have HJx := Lib.hid hJx
  have HY' : Hid (∀ (pre : List Vec) (x : Vec) W1 (m l0 : Nat), J pre W1 → x ∈ cornA a ++ cornA b → YieldAt (Fence.wide.inRound l0) m Tryz.prog l #[.agg #[.int .i64 x.x, .int .i64 x.y]] W1 fun e W' => (e = .returned (.bool true) ∧ J (pre ++ [x]) W' ∧ KpE [] nb l W1 W') ∨ (e = .returned (.bool false) ∧ Jx (pre ++ [x]) W' ∧ KeepsFrom B W1 W')) := by rw [hBs]; exact HY
  have hnB : nb ≤ B := by omega
  clear hY h0 hB hB0 hW hlr hz hnb HY hJ hJx
  refine callsIn_of_wp_marks Tryz.func346 rfl trivial ?_
  simp only [Tryz.ntmps346, List.size_toArray, List.length_cons, List.length_nil, Nat.reduceAdd, Nat.reduceSub, Array.replicate_succ, Array.replicate_zero, List.push_toArray, List.append_toArray, List.nil_append, List.cons_append]
  refine wpIn_wide.2 ?_
  have hcg := HB.out.cell
  have hlg := HB.out.lt
  go_wp2_with fail
  refine wp_loop (fun a' w' => ∃ (u4 u10 u11 u12 u13 u14 u15 u16 u17 u26 : Value) (k : Nat) (ds : List Nat), a' = { tmps := #[.func (.yield l) #[] #[], .pointer (some ⟨g, 0, none⟩), .pointer (some ⟨B, 0, none⟩), undef, u4, undef, undef, .slice (some ⟨g0, 0, none⟩) 2 c, .int .i64 2, .int .i64 (k : Int), u10, u11, u12, u13, u14, u15, u16, u17, undef, undef, undef, undef, undef, undef, undef, undef, u26], defers := ds.map markD } ∧ CrI nb l g g0 B c a b J k ds B w') (fun a' _ => 2 - (intOf (a'.tmps.getD 9 undef)).toNat) ?start ?round
  case start =>
    subst hBs
    exact ⟨_, _, _, _, _, _, _, _, _, _, 0, [], rfl, ⟨by omega, Lib.hid (OwnFrom.alloc HJ.out _ H0.out), Lib.hid (HB.out.alloc _), Lib.hid (HB0.out.alloc _), Lib.hid (Blk.newAt rfl), by simp, Lib.hid List.nodup_nil, Lib.hid (by intro D hD; cases hD)⟩⟩
  case round =>
    clear hBs HB HB0 H0 hcg hlg
    rintro a' wr ⟨u4, u10, u11, u12, u13, u14, u15, u16, u17, u26, k, ds, rfl, ⟨i1, i2, i3, i4, i5, i6, i7, i8⟩⟩
    have b3 := i3.out
    have b4 := i4.out
    have b5 := i5.out
    have c_b3 := b3.cell; have f_b3 := b3.frozen; have l_b3 := b3.lt; have c_b4 := b4.cell; have f_b4 := b4.frozen; have l_b4 := b4.lt; have c_b5 := b5.cell; have f_b5 := b5.frozen; have l_b5 := b5.lt
    by_cases hk : k < 2
    · obtain ⟨ar, har⟩ : ∃ ar : Ar, (k = 0 ∧ ar = a) ∨ (k = 1 ∧ ar = b) := by
        by_cases h : k = 0
        · exact ⟨a, .inl ⟨h, rfl⟩⟩
        · exact ⟨b, .inr ⟨by omega, rfl⟩⟩
      have q0 : wr.cell? ⟨g0, k * 4, none⟩ = some (.int .i64 ar.x.lo) ∧ wr.cell? ⟨g0, k * 4 + 1, none⟩ = some (.int .i64 ar.x.hi) ∧ wr.cell? ⟨g0, k * 4 + 2, none⟩ = some (.int .i64 ar.y.lo) ∧ wr.cell? ⟨g0, k * 4 + 3, none⟩ = some (.int .i64 ar.y.hi) := by
        rcases har with ⟨rfl, rfl⟩ | ⟨rfl, rfl⟩ <;> exact ⟨c_b4 _, c_b4 _, c_b4 _, c_b4 _⟩
      obtain ⟨q1, q2, q3, q4⟩ := q0
      have HTK : Hid ((cornA a ++ cornA b).take (4 * k + 4) = (cornA a ++ cornA b).take (4 * k) ++ cornA ar) := by
        rcases har with ⟨rfl, rfl⟩ | ⟨rfl, rfl⟩ <;> rfl
      have HMM : Hid (∀ x ∈ cornA ar, x ∈ cornA a ++ cornA b) := by
        rcases har with ⟨rfl, rfl⟩ | ⟨rfl, rfl⟩ <;> exact Lib.hid (fun x hx => List.mem_append.2 (by first | exact .inl hx | exact .inr hx))
      have hkz : decide ((k : Int) < 2) = true := by simp; omega
      clear c_b4 har
      go_wp2_with fail
      refine (spPairs_c _ _ _ _ _).mono ?_
      rintro e w3 ⟨bp, rfl, h3, hsz3, hBp⟩
      have E3 : Ext wr w3 := ext_by
      have K3 := b3.ext E3
      have K4 := b4.ext E3
      have K5 := b5.ext E3
      have HJ3 := Lib.hid (OwnFrom.ext HJ.out i2.out E3)
      have z3 := E3.size
      have HD3 : Hid (∀ D ∈ ds, B ≤ D ∧ w3.heap[D]? = some (.deferred (some []))) := Lib.hid fun D hD => ⟨(i8.out D hD).1, (E3.block D (Array.getElem?_eq_some_iff.1 (i8.out D hD).2).1).trans (i8.out D hD).2⟩
      rw [World.size_alloc] at hsz3
      clear h3 q1 q2 q3 q4
      clear c_b3 f_b3 l_b3 c_b5 f_b5 l_b5
      go_wp2_with fail
      refine wp_range_flat (nb := nb) (spPairs_iter bp 308 ar.x.lo ar.x.hi ar.y.lo ar.y.hi nb w3 hBp) rfl Tryz.call316 (by omega) (fun _ => rfl)
        (fun pre W => J ((cornA a ++ cornA b).take (4 * k) ++ pre.map fun p => (⟨p.1, p.2⟩ : Vec)) W ∧ (Blk W g 76 #[.slice (some ⟨g0, 0, none⟩) 2 c] ∧ Blk W g0 32 #[.int .i64 a.x.lo, .int .i64 a.x.hi, .int .i64 a.y.lo, .int .i64 a.y.hi, .int .i64 b.x.lo, .int .i64 b.x.hi, .int .i64 b.y.lo, .int .i64 b.y.hi] ∧ Blk W B 209 #[.func (.yield l) #[] #[]]) ∧ ∀ D ∈ ds, W.heap[D]? = some (.deferred (some [])))
        (fun c pre W => c = .ret ∧ (∃ xs, Jx xs W) ∧ ∀ D ∈ ds, W.heap[D]? = some (.deferred (some [])))
        (fun pre V V' row ⟨h1, ⟨h2, h3, h4⟩, h5⟩ hgr hr => ⟨HJ.out _ V V' row h1 hgr (fun r e => ⟨by have := (hr r e).1; omega, (hr r e).2⟩), ⟨ownFrom_blk _ _ _ (fun _ => #[.slice (some ⟨g0, 0, none⟩) 2 c]) pre V V' row h2 hgr hr, ownFrom_blk _ _ _ (fun _ => _) pre V V' row h3 hgr hr, ownFrom_blk _ _ _ (fun _ => _) pre V V' row h4 hgr hr⟩, fun D hD => by
          have h6 := h5 D hD
          refine (hgr.block D (Array.getElem?_eq_some_iff.1 h6).1 (fun e => ?_)).trans h6
          have := (hr D e.symm).1
          have := (Array.getElem?_eq_some_iff.1 (HD3.out D hD).2).1
          omega⟩)
        (fun cc pre V V' row ⟨h1, ⟨xs, h2⟩, h5⟩ hgr hr => ⟨h1, ⟨xs, HJx.out _ V V' row h2 hgr (fun r e => ⟨by have := (hr r e).1; omega, (hr r e).2⟩)⟩, fun D hD => by
          have h6 := h5 D hD
          refine (hgr.block D (Array.getElem?_eq_some_iff.1 h6).1 (fun e => ?_)).trans h6
          have := (hr D e.symm).1
          have := (Array.getElem?_eq_some_iff.1 (HD3.out D hD).2).1
          omega⟩)
        ⟨by simpa using HJ3.out, ⟨K3, K4, K5⟩, fun D hD => (HD3.out D hD).2⟩
        (fun p t => (((t.setIfInBounds 18 (.int .i64 p.1)).setIfInBounds 19 (.int .i64 p.2)).setIfInBounds 5 (.int .i64 p.1)).setIfInBounds 6 (.int .i64 p.2)) ?assign ?body ?done ?stop
      case assign =>
        intro l2 n2 x V K hK
        simp only [List.setIfInBounds_toArray, List.set_cons_zero, List.set_cons_succ] at hK
        simp only [pairE]
        gi_wp2
        exact hK
      case body =>
        rintro l2 n2 pre x V hx hV ⟨hj, ⟨hv3, hv4, hv5⟩, hv6⟩
        simp only [List.setIfInBounds_toArray, List.set_cons_zero, List.set_cons_succ]
        have hmem : (⟨x.1, x.2⟩ : Vec) ∈ cornA a ++ cornA b := HMM.out _ (by
          unfold pairsV at hx
          unfold cornA cornersL
          simp only [List.mem_cons, List.not_mem_nil, or_false] at hx ⊢
          rcases hx with rfl | rfl | rfl | rfl <;> simp)
        obtain ⟨fn, tmps, assign, body, hy, hR⟩ := HY'.out _ ⟨x.1, x.2⟩ V (n2 - 1) l2 hj hmem
        have c_hv5 := hv5.cell; have f_hv5 := hv5.frozen; have l_hv5 := hv5.lt
        gi_wp2
        refine ⟨fun h => (by cases h), hR.mono ?_⟩
        have hz3 : B < w3.heap.size := by have := K5.lt; omega
        rintro e V3 (⟨rfl, hJ4, hk4⟩ | ⟨rfl, hJx4, hk4⟩)
        · clear c_hv5 f_hv5 l_hv5
          gi_wp2
          refine ⟨⟨hk4.2.1, fun k' o hB' hk' _ => hk4.2.2 k' o (by omega) (by intro _ _ _ _; simp) hk'⟩, ⟨hk4.1, fun g' hg' t cs hb => hk4.blk (by simp only [List.mem_cons, List.not_mem_nil, or_false] at hg'; omega) (by simp) hb⟩, ?_, ⟨hk4.blk hgl (by simp) hv3, hk4.blk hg0l (by simp) hv4, hk4.blk (by omega) (by simp) hv5⟩, fun D hD => hk4.2.2 D _ (by have := (HD3.out D hD).1; omega) (by intro _ _ _ h9; cases h9) (hv6 D hD)⟩
          rw [List.map_append, ← List.append_assoc]
          exact hJ4
        · clear c_hv5 f_hv5 l_hv5
          gi_wp2
          exact ⟨⟨hk4.size, fun k' o hB' hk' ho => hk4.same k' o (by omega) hk' ho⟩, rfl, ⟨_, hJx4⟩, fun D hD => hk4.same D _ (HD3.out D hD).1 (hv6 D hD) rfl⟩
      case done =>
        rintro D V hD ⟨hj, ⟨hv3, hv4, hv5⟩, hv6⟩ hK
        have hj2 : J ((cornA a ++ cornA b).take (4 * (k + 1))) V := by
          rw [show 4 * (k + 1) = 4 * k + 4 by omega, HTK.out]
          exact hj
        have HJ4 := Lib.hid hj2
        have HV3 := Lib.hid hv3
        have HV4 := Lib.hid hv4
        have HV5 := Lib.hid hv5
        have HV6 := Lib.hid hv6
        have hz5 := hv5.lt
        clear hj hj2 hv3 hv4 hv5 hv6
        dsimp only
        go_wp2_with fail
        refine ⟨⟨_, _, _, _, _, _, _, _, _, _, k + 1, D :: ds, rfl, ⟨by omega, HJ4, HV3, HV4, HV5, by omega, Lib.hid (List.nodup_cons.2 ⟨fun hm => ?_, i7.out⟩), Lib.hid fun D' hD' => ?_⟩⟩, ?_⟩
        · have := (Array.getElem?_eq_some_iff.1 (HD3.out D hm).2).1
          omega
        · rcases List.mem_cons.1 hD' with rfl | hD'
          · exact ⟨by omega, hK⟩
          · exact ⟨(i8.out D' hD').1, HV6.out D' hD'⟩
        · simp [intOf]; omega
      case stop =>
        rintro D cc pre V hD hpre ⟨rfl, hjx, hv6⟩ hK
        dsimp only
        go_wp2_with fail
        refine marks_out (fun W => ∃ xs, Jx xs W) (fun D => B ≤ D) (fun W D hD hG hK => ?_) (fun W hW => ?_) (D :: ds) _ (List.nodup_cons.2 ⟨fun hm => ?_, i7.out⟩) (fun D' hD' => ?_) hjx
        · obtain ⟨xs, hxs⟩ := hG
          exact ⟨xs, HJx.out.putObj _ hxs hD hK rfl⟩
        · refine ⟨.tuple #[], ?_, ⟨_, rfl⟩, .inr (hW.imp fun xs h => ⟨trivial, h⟩)⟩
          simp only [results, Tryz.results346]
          go_simp
        · have := (Array.getElem?_eq_some_iff.1 (HD3.out D hm).2).1
          omega
        · rcases List.mem_cons.1 hD' with rfl | hD'
          · exact ⟨by omega, hK⟩
          · exact ⟨(i8.out D' hD').1, hv6 D' hD'⟩
    · obtain rfl : k = 2 := by omega
      have hj2 : J (cornA a ++ cornA b) wr := i2.out
      have HJ4 := Lib.hid hj2
      clear hj2 i2
      go_wp2_with fail
      refine marks_out (fun W => J (cornA a ++ cornA b) W) (fun D => B ≤ D) (fun W D hD hG hK => HJ.out.putObj _ hG hD hK rfl) (fun W hW => ?_) ds _ i7.out i8.out HJ4.out
      refine ⟨.tuple #[], ?_, ⟨_, rfl⟩, .inl ⟨_, rfl, hW⟩⟩
      simp only [results, Tryz.results346]
      go_simp
end Go.Proofs.YtiladlangkjoiaaGreat

namespace Go.Proofs.YtiladlangkjoiaaGreat
open Go.RowKit Go.Shelf
attribute [local go_sem] Oper.semAt_some

def farP (p : Vec) : Prop := (-268435456 ≤ p.x ∧ p.x ≤ 268435456) ∧ -268435456 ≤ p.y ∧ p.y ≤ 268435456
theorem corn_far {a : Ar} (h : areaErr a = 0) : ∀ p ∈ cornA a, farP p := by
  unfold areaErr at h
  by_cases h1 : sp2Err a.x a.y = 0
  · rw [if_pos h1] at h
    cases hf : far4 a
    · rw [hf] at h; cases h
    · unfold far4 at hf
      simp only [Bool.and_eq_true, within_iff] at hf
      intro p hp
      unfold cornA cornersL at hp
      simp only [List.mem_cons, List.not_mem_nil, or_false] at hp
      unfold farP
      rcases hp with rfl | rfl | rfl | rfl <;> dsimp only <;> omega
  · rw [if_neg h1] at h; exact absurd h h1
theorem corns_far {a b : Ar} (ha : areaErr a = 0) (hb : areaErr b = 0) : ∀ p ∈ cornA a ++ cornA b, farP p := fun p hp => (List.mem_append.1 hp).elim (corn_far ha p) (corn_far hb p)
theorem sgn_neg (n : Int) : (sgn n < 0) ↔ n < 0 := by unfold sgn; split; omega; split <;> omega
set_option maxRecDepth 20000 in
set_option maxHeartbeats 4000000 in
theorem spRight_c (a b : Ar) (r : Int) (w : World) :
    Calls Tryz.prog 322 #[.agg #[.int .i64 a.x.lo, .int .i64 a.x.hi, .int .i64 a.y.lo, .int .i64 a.y.hi], .agg #[.int .i64 b.x.lo, .int .i64 b.x.hi, .int .i64 b.y.lo, .int .i64 b.y.hi], .int .i64 r] w fun e w' => e = .returned (.bool (rightB a b r)) ∧ Ext w w' := by
  have H1 : Hid (∀ W, Calls Tryz.prog 162 #[.agg #[.int .i64 a.x.lo, .int .i64 a.x.hi, .int .i64 a.y.lo, .int .i64 a.y.hi]] W fun e w' => e = .returned (.int .i64 (areaErr a)) ∧ Ext W w') := Lib.hid fun W => spCheckArea_c a.x.lo a.x.hi a.y.lo a.y.hi W
  have H2 : Hid (∀ W, Calls Tryz.prog 162 #[.agg #[.int .i64 b.x.lo, .int .i64 b.x.hi, .int .i64 b.y.lo, .int .i64 b.y.hi]] W fun e w' => e = .returned (.int .i64 (areaErr b)) ∧ Ext W w') := Lib.hid fun W => spCheckArea_c b.x.lo b.x.hi b.y.lo b.y.hi W
  have H3 := Lib.hid fun W => sp_within_c r 0 268435456 W
  unfold rightB
  generalize areaErr a = E1 at *
  generalize areaErr b = E2 at *
  generalize within r 0 268435456 = R at *
  by_cases g1 : E1 = 0
  · subst g1
    by_cases g2 : E2 = 0
    · subst g2
      go_enter Tryz.func322, Tryz.ntmps322
      go_wp2_with fail
      refine (H1.out _).mono ?_
      rintro e w1 ⟨rfl, h1⟩
      obtain ⟨hc_w1, hf_w1, hz_w1⟩ := bcell h1; (try simp only [szA] at hz_w1); (try have := wz0 w w1); (try have := wz1 w w1); (try have := wz2 w w1); (try have := wz3 w w1); (try have := wz4 w w1)
      go_wp2_with fail
      refine (H2.out _).mono ?_
      rintro e w2 ⟨rfl, h2⟩
      obtain ⟨hc_w2, hf_w2, hz_w2⟩ := bcell h2; (try simp only [szA] at hz_w2); (try have := wz0 w w2); (try have := wz1 w w2); (try have := wz2 w w2); (try have := wz3 w w2); (try have := wz4 w w2)
      go_wp2_with fail
      refine (H3.out _).mono ?_
      rintro e _ ⟨rfl, rfl⟩
      go_wp2_with fail
      go_ret
      exact ⟨ret_b (by simp), ext_by⟩
    · go_enter Tryz.func322, Tryz.ntmps322
      go_wp2_with fail
      refine (H1.out _).mono ?_
      rintro e w1 ⟨rfl, h1⟩
      obtain ⟨hc_w1, hf_w1, hz_w1⟩ := bcell h1; (try simp only [szA] at hz_w1); (try have := wz0 w w1); (try have := wz1 w w1); (try have := wz2 w w1); (try have := wz3 w w1); (try have := wz4 w w1)
      go_wp2_with fail
      refine (H2.out _).mono ?_
      rintro e w2 ⟨rfl, h2⟩
      obtain ⟨hc_w2, hf_w2, hz_w2⟩ := bcell h2; (try simp only [szA] at hz_w2); (try have := wz0 w w2); (try have := wz1 w w2); (try have := wz2 w w2); (try have := wz3 w w2); (try have := wz4 w w2)
      go_wp2_with fail
      go_ret
      exact ⟨ret_b (by simp [g2]), ext_by⟩
  · go_enter Tryz.func322, Tryz.ntmps322
    go_wp2_with fail
    refine (H1.out _).mono ?_
    rintro e w1 ⟨rfl, h1⟩
    obtain ⟨hc_w1, hf_w1, hz_w1⟩ := bcell h1; (try simp only [szA] at hz_w1); (try have := wz0 w w1); (try have := wz1 w w1); (try have := wz2 w w1); (try have := wz3 w w1); (try have := wz4 w w1)
    go_wp2_with fail
    go_ret
    exact ⟨ret_b (by simp [g1]), ext_by⟩
set_option maxRecDepth 100000 in
set_option maxHeartbeats 8000000 in
theorem spFirst_c (p : Vec) (a b : Ar) (w : World) (hp : farP p) (ha : areaErr a = 0) (hb : areaErr b = 0) :
    Calls Tryz.prog 324 #[.agg #[.int .i64 p.x, .int .i64 p.y], .agg #[.int .i64 a.x.lo, .int .i64 a.x.hi, .int .i64 a.y.lo, .int .i64 a.y.hi], .agg #[.int .i64 b.x.lo, .int .i64 b.x.hi, .int .i64 b.y.lo, .int .i64 b.y.hi]] w fun e w' => e = .returned (.bool (sideB (cornA a ++ cornA b) p)) ∧ Ext w w' := by
  have hfar := corns_far ha hb
  have HX := Lib.hid fun (q : Vec) (hq : q ∈ cornA a ++ cornA b) W => spCross_c p.x p.y q.x q.y W (by
    have h1 := hfar q hq
    unfold farP at h1 hp
    unfold isI64
    omega)
  unfold sideB
  clear hp ha hb hfar
  obtain ⟨px, py⟩ := p
  dsimp only at HX ⊢
  refine (callsIn_wide (n := 6)).1 (callsIn_of_wp_marks Tryz.func324 rfl trivial ?_)
  simp only [Tryz.ntmps324, List.size_toArray, List.length_cons, List.length_nil, Nat.reduceAdd, Nat.reduceSub, Array.replicate_succ, Array.replicate_zero, List.push_toArray, List.append_toArray, List.nil_append, List.cons_append]
  refine wpIn_wide.2 ?_
  go_wp2_with fail
  refine (spCorners_c _ _ _ _).mono ?_
  rintro e w1 ⟨rfl, h1, hBg⟩
  have B3 : Blk w1 w.heap.size 28 #[.int .i64 px, .int .i64 py] := (((((Blk.newAt rfl).alloc _).alloc _).alloc _).alloc _).ext h1
  have B6 : Blk w1 (w.heap.size + 1 + 1 + 1) 4 #[.bool false] := ((Blk.newAt (by simp)).alloc _).ext h1
  have B0 : Blk w1 (w.heap.size + 1 + 1 + 1 + 1) 32 #[.int .i64 a.x.lo, .int .i64 a.x.hi, .int .i64 a.y.lo, .int .i64 a.y.hi, .int .i64 b.x.lo, .int .i64 b.x.hi, .int .i64 b.y.lo, .int .i64 b.y.hi] := (Blk.newAt (by simp)).ext h1
  have E1 : Ext w w1 := ext_by
  have hz1 := E1.size
  simp only [World.size_alloc] at hBg
  clear h1
  have l6 := B6.lt
  go_wp2_with fail
  refine wp_range_Rb (spCorners_iter (w.heap.size + 1 + 1 + 1 + 1 + 1) (w.heap.size + 1 + 1 + 1 + 1) 2 a b w.heap.size w1 hBg B0 hz1) rfl Tryz.call346 (fun _ => rfl)
    (fun h k => h.trans k) (KpE.put hz1) (fun l W W' hW e => KpE.of_ext e (by omega)) (ownFrom_pure _ _) (fun x => ownFrom_pure _ _)
    (fun pre W => (Ext w W ∧ Hid (∀ q ∈ pre, 0 ≤ px * q.y - py * q.x)) ∧ Blk W w.heap.size 28 #[.int .i64 px, .int .i64 py] ∧ Blk W (w.heap.size + 1 + 1 + 1) 4 #[.bool false])
    (fun c pre W => (Ext w W ∧ (c = .ret ∧ Hid (∃ q ∈ cornA a ++ cornA b, px * q.y - py * q.x < 0))) ∧ Blk W (w.heap.size + 1 + 1 + 1) 4 #[.bool false])
    (OwnFrom.and (OwnFrom.and (ownFrom_ext hz1) (ownFrom_pure _ _)) (OwnFrom.and (ownFrom_blk _ _ _ _) (ownFrom_blk _ _ _ _)))
    (fun c => OwnFrom.and (OwnFrom.and (ownFrom_ext hz1) (ownFrom_pure _ _)) (ownFrom_blk _ _ _ _))
    ⟨⟨E1, Lib.hid (by intro q hq; cases hq)⟩, B3, B6⟩
    (fun x b t => (t.setIfInBounds 12 (.agg #[.int .i64 x.x, .int .i64 x.y])).setIfInBounds 7 (.pointer (some ⟨b, 0, none⟩))) 28 (fun x => #[.int .i64 x.x, .int .i64 x.y]) ?assign ?body ?done ?stop
  case assign =>
    intro l n x W K hK
    simp only [List.setIfInBounds_toArray, List.set_cons_zero, List.set_cons_succ] at hK
    simp only [vecE]
    gi_wp2
    exact hK
  case body =>
    rintro l r pre x bq W hl hr hmem hW ⟨⟨he, hpre⟩, hb3, hb6⟩ hbq hBq
    simp only [List.setIfInBounds_toArray, List.set_cons_zero, List.set_cons_succ]
    have HC := Lib.hid (HX.out x hmem W)
    have hn := sgn_neg (px * x.y - py * x.x)
    generalize hsg : sgn (px * x.y - py * x.x) = sg at *
    have HE := Lib.hid he
    have HQ := Lib.hid hbq
    have c_hb3 := hb3.cell; have f_hb3 := hb3.frozen; have l_hb3 := hb3.lt; have c_hBq := hBq.cell; have f_hBq := hBq.frozen; have l_hBq := hBq.lt
    clear he hsg
    gi_wp2
    refine ⟨trivial, ?_⟩
    refine (CallsIn.inRound l (callsIn_wide.2 HC.out)).mono ?_
    rintro e W3 ⟨rfl, h3⟩
    have hb63 := hb6.ext h3
    have hb33 := hb3.ext h3
    clear c_hb3 f_hb3 l_hb3 c_hBq f_hBq l_hBq
    have l6' := hb63.lt
    have f6' := hb63.frozen
    have c6' := hb63.cell
    by_cases hs : sg < 0
    · have HN := Lib.hid (hn.1 hs)
      clear hn
      gi_wp2
      refine ⟨(h3.keepsFrom _).trans ((KeepsOthers.setCell _ _ _).from _), ⟨(HE.out.trans h3).set (by dsimp only; omega) _, rfl, Lib.hid ⟨x, hmem, HN.out⟩⟩, hb63.set_ 0 _⟩
    · have HN : Hid (0 ≤ px * x.y - py * x.x) := by have := mt hn.2 hs; exact Lib.hid (by omega)
      have hs' : 0 ≤ sg := by omega
      clear hn hs
      gi_wp2
      refine ⟨h3.keepsFrom _, KpE.of_ext h3 (by omega), ⟨HE.out.trans h3, Lib.hid fun q hq => ?_⟩, hb33, hb63⟩
      rcases List.mem_append.1 hq with hq | hq
      · exact hpre.out q hq
      · simp at hq; subst hq; exact HN.out
  case done =>
    rintro D xs W hD rfl ⟨⟨he, hpre⟩, hb3, hb6⟩ hK
    have c6' := hb6.cell
    have f6' := hb6.frozen
    have l6' := hb6.lt
    have n1 : w.heap.size + 1 + 1 + 1 ≠ D := by omega
    dsimp only
    go_wp2_with fail
    refine ⟨by simp, .inl ⟨_, _, rfl, run_takeDeferred (by rw [Below.heap_setCell _ _ _ _ (fun e => n1 e.symm)]; exact hK), ?_⟩⟩
    have hB6 := (Blk.put (o := Obj.deferred none) (hb6.set_ 0 (.bool true)) n1).cell
    refine ⟨.bool true, ?_, ?_, Ext.put (he.set (by dsimp only; omega) _) (by omega)⟩
    · simp only [results, Tryz.results324]
      go_simp
    · refine ret_b ?_
      symm
      rw [List.all_eq_true]
      intro q hq
      exact decide_eq_true (hpre.out q hq)
  case stop =>
    rintro D cc pre W hD ⟨⟨he, rfl, hq⟩, hb6⟩ hK
    have n1 : w.heap.size + 1 + 1 + 1 ≠ D := by omega
    dsimp only
    go_wp2_with fail
    refine ⟨by simp, .inl ⟨_, _, rfl, run_takeDeferred hK, ?_⟩⟩
    have hB6 := (Blk.put (o := Obj.deferred none) hb6 n1).cell
    refine ⟨.bool false, ?_, ?_, Ext.put he (by omega)⟩
    · simp only [results, Tryz.results324]
      go_simp
    · refine ret_b ?_
      symm
      rw [List.all_eq_false]
      obtain ⟨q, hq1, hq2⟩ := hq.out
      exact ⟨q, hq1, fun h => by have h9 := of_decide_eq_true h; unfold crossP at h9; dsimp only at h9; omega⟩
theorem ownFrom_kpE {β : Type} {B : Nat} {ts : List TypeId} {nb l : Nat} {W : World} (h1 : nb ≤ W.heap.size) (h2 : W.heap.size ≤ B) : OwnFrom B (fun (_ : β) V => KpE ts nb l W V) := fun s V V' row ⟨k1, k2, k3⟩ hgr hr =>
  ⟨ownFrom_below (β := β) h1 (Nat.le_trans h1 h2) s V V' row k1 hgr hr, Nat.le_trans k2 hgr.size, fun g o hg ht hb => by
    have h4 := k3 g o hg ht hb
    refine (hgr.block g (Array.getElem?_eq_some_iff.1 h4).1 (fun e => ?_)).trans h4
    have := (hr g e.symm).1
    have := (Array.getElem?_eq_some_iff.1 hb).1
    omega⟩
set_option maxRecDepth 100000 in
set_option maxHeartbeats 16000000 in
theorem spClear_yes (a b : Ar) (r : Int) (w : World) (hr : rightB a b r = true) :
    Calls Tryz.prog 290 #[.agg #[.int .i64 a.x.lo, .int .i64 a.x.hi, .int .i64 a.y.lo, .int .i64 a.y.hi], .agg #[.int .i64 b.x.lo, .int .i64 b.x.hi, .int .i64 b.y.lo, .int .i64 b.y.hi], .int .i64 r] w fun e w' => e = .returned (.bool (clearL (cornA a ++ cornA b) r)) ∧ Ext w w' := by
  have HR := Lib.hid fun W => spRight_c a b r W
  rw [hr] at HR
  unfold rightB at hr
  simp only [Bool.and_eq_true, decide_eq_true_eq, within_iff] at hr
  obtain ⟨⟨ha, hb⟩, hr1, hr2⟩ := hr
  have hfar := corns_far ha hb
  have HX := Lib.hid fun (p q : Vec) (hp : p ∈ cornA a ++ cornA b) (hq : q ∈ cornA a ++ cornA b) W => spComes_c p.x p.y q.x q.y r W (hfar p hp).1 (hfar p hp).2 (hfar q hq).1 (hfar q hq).2 ⟨hr1, hr2⟩
  have HFI := Lib.hid fun (p : Vec) (hp : p ∈ cornA a ++ cornA b) W => spFirst_c p a b W (hfar p hp) ha hb
  have HCO := Lib.hid fun A n c W => spCorners_c A n c W
  clear hfar ha hb hr1 hr2
  refine (callsIn_wide (n := 6)).1 (callsIn_of_wp_marks Tryz.func290 rfl trivial ?_)
  simp only [Tryz.ntmps290, List.size_toArray, List.length_cons, List.length_nil, Nat.reduceAdd, Nat.reduceSub, Array.replicate_succ, Array.replicate_zero, List.push_toArray, List.append_toArray, List.nil_append, List.cons_append]
  refine wpIn_wide.2 ?_
  go_wp2_with fail
  refine (HR.out _).mono ?_
  rintro e w1 ⟨rfl, h1⟩
  have A3 : Blk w1 w.heap.size 32 #[.int .i64 a.x.lo, .int .i64 a.x.hi, .int .i64 a.y.lo, .int .i64 a.y.hi] := ((((Blk.newAt rfl).alloc _).alloc _).alloc _).ext h1
  have A4 : Blk w1 (w.heap.size + 1) 32 #[.int .i64 b.x.lo, .int .i64 b.x.hi, .int .i64 b.y.lo, .int .i64 b.y.hi] := (((Blk.newAt (by simp)).alloc _).alloc _).ext h1
  have A5 : Blk w1 (w.heap.size + 1 + 1) 2 #[.int .i64 r] := ((Blk.newAt (by simp)).alloc _).ext h1
  have A6 : Blk w1 (w.heap.size + 1 + 1 + 1) 4 #[.bool false] := (Blk.newAt (by simp)).ext h1
  have E1 : Ext w w1 := ext_by
  clear h1 HR
  have c_A3 := A3.cell; have f_A3 := A3.frozen; have l_A3 := A3.lt; have c_A4 := A4.cell; have f_A4 := A4.frozen; have l_A4 := A4.lt; have c_A5 := A5.cell; have f_A5 := A5.frozen; have l_A5 := A5.lt; have c_A6 := A6.cell; have f_A6 := A6.frozen; have l_A6 := A6.lt
  go_wp2_with fail
  refine (HCO.out _ _ _ _).mono ?_
  rintro e w2 ⟨rfl, h2, hBg⟩
  simp only [World.size_alloc] at hBg
  have B0 : Blk w2 w1.heap.size 32 #[.int .i64 a.x.lo, .int .i64 a.x.hi, .int .i64 a.y.lo, .int .i64 a.y.hi, .int .i64 b.x.lo, .int .i64 b.x.hi, .int .i64 b.y.lo, .int .i64 b.y.hi] := (Blk.newAt rfl).ext h2
  have K3 := (A3.alloc _).ext h2
  have K4 := (A4.alloc _).ext h2
  have K5 := (A5.alloc _).ext h2
  have K6 := (A6.alloc _).ext h2
  have E2 : Ext w w2 := (E1.alloc _).trans h2
  have hz2 := E2.size
  have k6 : w.heap.size + 1 + 1 + 1 < w2.heap.size := K6.lt
  clear c_A3 f_A3 l_A3 c_A4 f_A4 l_A4 c_A5 f_A5 l_A5 c_A6 f_A6 l_A6
  clear h2 A3 A4 A5 A6 E1
  go_wp2_with fail
  refine wp_range_Rb (spCorners_iter (w1.heap.size + 1) w1.heap.size 2 a b w.heap.size w2 hBg B0 hz2) rfl Tryz.call346 (fun _ => rfl)
    (fun h k => h.trans k) (KpE.put hz2) (fun l W W' hW e => KpE.of_ext e (by omega)) (ownFrom_pure _ _) (fun x => ownFrom_pure _ _)
    (fun pre W => (Ext w W ∧ Hid (∀ p ∈ pre, ∀ q ∈ cornA a ++ cornA b, comesB p q r = false)) ∧ (Blk W w.heap.size 32 #[.int .i64 a.x.lo, .int .i64 a.x.hi, .int .i64 a.y.lo, .int .i64 a.y.hi] ∧ Blk W (w.heap.size + 1) 32 #[.int .i64 b.x.lo, .int .i64 b.x.hi, .int .i64 b.y.lo, .int .i64 b.y.hi] ∧ Blk W (w.heap.size + 1 + 1) 2 #[.int .i64 r] ∧ Blk W (w.heap.size + 1 + 1 + 1) 4 #[.bool false]))
    (fun c pre W => (Ext w W ∧ (c = .ret ∧ Hid (∃ p ∈ cornA a ++ cornA b, ∃ q ∈ cornA a ++ cornA b, comesB p q r = true))) ∧ Blk W (w.heap.size + 1 + 1 + 1) 4 #[.bool false])
    (OwnFrom.and (OwnFrom.and (ownFrom_ext hz2) (ownFrom_pure _ _)) (OwnFrom.and (ownFrom_blk _ _ _ _) (OwnFrom.and (ownFrom_blk _ _ _ _) (OwnFrom.and (ownFrom_blk _ _ _ _) (ownFrom_blk _ _ _ _)))))
    (fun c => OwnFrom.and (OwnFrom.and (ownFrom_ext hz2) (ownFrom_pure _ _)) (ownFrom_blk _ _ _ _))
    ⟨⟨E2, Lib.hid (by intro q hq; cases hq)⟩, K3, K4, K5, K6⟩
    (fun x b t => (t.setIfInBounds 19 (.agg #[.int .i64 x.x, .int .i64 x.y])).setIfInBounds 7 (.pointer (some ⟨b, 0, none⟩))) 28 (fun x => #[.int .i64 x.x, .int .i64 x.y]) ?assign ?body ?done ?stop
  case assign =>
    intro l n x W K hK
    simp only [List.setIfInBounds_toArray, List.set_cons_zero, List.set_cons_succ] at hK
    simp only [vecE]
    gi_wp2
    exact hK
  case body =>
    rintro l rl pre p bp W hl hrl hmem hW ⟨⟨he, hpre⟩, hb3, hb4, hb5, hb6⟩ hbp hBp
    simp only [List.setIfInBounds_toArray, List.set_cons_zero, List.set_cons_succ]
    have HE := Lib.hid he
    have c_hb3 := hb3.cell; have f_hb3 := hb3.frozen; have l_hb3 := hb3.lt; have c_hb4 := hb4.cell; have f_hb4 := hb4.frozen; have l_hb4 := hb4.lt
    clear he
    gi_wp2
    refine ⟨trivial, ?_⟩
    refine (CallsIn.inRound l (callsIn_wide.2 (HCO.out _ _ _ _))).mono ?_
    rintro e W3 ⟨rfl, h3, hBg3⟩
    simp only [World.size_alloc] at hBg3
    have B03 : Blk W3 W.heap.size 32 #[.int .i64 a.x.lo, .int .i64 a.x.hi, .int .i64 a.y.lo, .int .i64 a.y.hi, .int .i64 b.x.lo, .int .i64 b.x.hi, .int .i64 b.y.lo, .int .i64 b.y.hi] := (Blk.newAt rfl).ext h3
    have eW : Ext W W3 := (Ext.alloc0 _ _).trans h3
    have E3 := HE.out.trans eW
    have J3 := hb3.ext eW
    have J4 := hb4.ext eW
    have J5 := hb5.ext eW
    have J6 := hb6.ext eW
    have JP := hBp.ext eW
    have hrl3 : W3.heap[l]? = some (.loop rl) := (eW.block l (Array.getElem?_eq_some_iff.1 hrl).1).trans hrl
    have hz3 := eW.size
    have hl3 : l < W3.heap.size := (Array.getElem?_eq_some_iff.1 hrl3).1
    clear c_hb3 f_hb3 l_hb3 c_hb4 f_hb4 l_hb4
    clear h3 HE hb3 hb4 hb5 hb6 hBp
    gi_wp2
    refine wpIn_range_Rb hrl3 (by omega) (spCorners_iter (W.heap.size + 1) W.heap.size 2 a b w.heap.size W3 hBg3 B03 (by omega)) rfl Tryz.call346 (fun _ => rfl)
      (fun h k => h.trans k) (KpE.put (by omega)) (fun l W W' hW e => KpE.of_ext e (by omega)) (ownFrom_pure _ _) (fun x => ownFrom_pure _ _)
      (fun pre2 V => ((Ext w V ∧ (KpE [] w.heap.size l W V ∧ KeepsFrom w2.heap.size W V)) ∧ Hid (∀ q ∈ pre2, comesB p q r = false)) ∧ (Blk V bp 28 #[.int .i64 p.x, .int .i64 p.y] ∧ (Blk V w.heap.size 32 #[.int .i64 a.x.lo, .int .i64 a.x.hi, .int .i64 a.y.lo, .int .i64 a.y.hi] ∧ Blk V (w.heap.size + 1) 32 #[.int .i64 b.x.lo, .int .i64 b.x.hi, .int .i64 b.y.lo, .int .i64 b.y.hi] ∧ Blk V (w.heap.size + 1 + 1) 2 #[.int .i64 r] ∧ Blk V (w.heap.size + 1 + 1 + 1) 4 #[.bool false])))
      (fun c pre2 V => ((Ext w V ∧ KeepsFrom w2.heap.size W V) ∧ (c = .ret ∧ Hid (∃ q ∈ cornA a ++ cornA b, comesB p q r = true))) ∧ Blk V (w.heap.size + 1 + 1 + 1) 4 #[.bool false])
      (OwnFrom.and (OwnFrom.and (OwnFrom.and (ownFrom_ext (by omega)) (OwnFrom.and (ownFrom_kpE (by omega) (by omega)) (ownFrom_keepsFrom (by omega)))) (ownFrom_pure _ _)) (OwnFrom.and (ownFrom_blk _ _ _ _) (OwnFrom.and (ownFrom_blk _ _ _ _) (OwnFrom.and (ownFrom_blk _ _ _ _) (OwnFrom.and (ownFrom_blk _ _ _ _) (ownFrom_blk _ _ _ _))))))
      (fun c => OwnFrom.and (OwnFrom.and (OwnFrom.and (ownFrom_ext (by omega)) (ownFrom_keepsFrom (by omega))) (ownFrom_pure _ _)) (ownFrom_blk _ _ _ _))
      ⟨⟨⟨E3, KpE.of_ext eW (by omega), eW.keepsFrom _⟩, Lib.hid (by intro q hq; cases hq)⟩, JP, J3, J4, J5, J6⟩
      (fun x b t => (t.setIfInBounds 24 (.agg #[.int .i64 x.x, .int .i64 x.y])).setIfInBounds 8 (.pointer (some ⟨b, 0, none⟩))) 28 (fun x => #[.int .i64 x.x, .int .i64 x.y]) ?assign2 ?body2 ?done2 ?stop2
    case assign2 =>
      intro l n x W K hK
      simp only [List.setIfInBounds_toArray, List.set_cons_zero, List.set_cons_succ] at hK
      simp only [vecE]
      gi_wp2
      exact hK
    case body2 =>
      rintro l4 n4 pre2 q bq V hl4 hq hV ⟨⟨⟨he, hkp, hkf⟩, hpre2⟩, hp, hb3, hb4, hb5, hb6⟩ hbq hBq
      simp only [List.setIfInBounds_toArray, List.set_cons_zero, List.set_cons_succ]
      have HC := Lib.hid (HX.out p q hmem hq V)
      generalize hsg : comesB p q r = sg at *
      have HSG := Lib.hid hsg
      have HE := Lib.hid he
      have HKP := Lib.hid hkp
      have HKF := Lib.hid hkf
      have c_hp := hp.cell; have f_hp := hp.frozen; have l_hp := hp.lt; have c_hb5 := hb5.cell; have f_hb5 := hb5.frozen; have l_hb5 := hb5.lt; have c_hBq := hBq.cell; have f_hBq := hBq.frozen; have l_hBq := hBq.lt
      clear he hsg hkp hkf
      gi_wp2
      refine ⟨trivial, ?_⟩
      refine ⟨fun h => (by cases h), (CallsIn.inRound l4 (callsIn_wide.2 HC.out)).mono ?_⟩
      rintro e V3 ⟨rfl, h3⟩
      have hb63 := hb6.ext h3
      have hz6 := h3.size
      clear c_hp f_hp l_hp c_hb5 f_hb5 l_hb5 c_hBq f_hBq l_hBq
      have l6' := hb63.lt
      have f6' := hb63.frozen
      have c6' := hb63.cell
      cases sg
      · gi_wp2
        refine ⟨h3.keepsFrom _, KpE.of_ext h3 (by omega), ⟨⟨HE.out.trans h3, HKP.out.trans (KpE.of_ext h3 (by omega)), HKF.out.trans (h3.keepsFrom _)⟩, Lib.hid fun q' hq' => ?_⟩, hp.ext h3, hb3.ext h3, hb4.ext h3, hb5.ext h3, hb63⟩
        rcases List.mem_append.1 hq' with hq' | hq'
        · exact hpre2.out q' hq'
        · simp at hq'; subst hq'; exact HSG.out
      · gi_wp2
        exact ⟨(h3.keepsFrom _).trans ((KeepsOthers.setCell _ _ _).from _), ⟨⟨(HE.out.trans h3).set (by dsimp only; omega) _, HKF.out.trans ((h3.keepsFrom _).trans ((KeepsOthers.setCell _ _ _).from _))⟩, rfl, Lib.hid ⟨q, hq, HSG.out⟩⟩, hb63.set_ 0 _⟩
    case done2 =>
      rintro xs V rfl ⟨⟨⟨he, hkp, hkf⟩, hpre2⟩, hp, hb3, hb4, hb5, hb6⟩
      gi_wp2
      refine ⟨hkf, hkp, ⟨he, Lib.hid fun p' hp' => ?_⟩, hb3, hb4, hb5, hb6⟩
      rcases List.mem_append.1 hp' with hp' | hp'
      · exact hpre.out p' hp'
      · simp at hp'; subst hp'; exact hpre2.out
    case stop2 =>
      rintro cc pre2 V ⟨⟨⟨he, hkf⟩, rfl, hq⟩, hb6⟩
      gi_wp2
      obtain ⟨q, hq1, hq2⟩ := hq.out
      exact ⟨hkf, ⟨he, rfl, Lib.hid ⟨p, hmem, q, hq1, hq2⟩⟩, hb6⟩
  case done =>
    rintro D xs W hD rfl ⟨⟨he, hall⟩, hb3, hb4, hb5, hb6⟩ hK
    have HA : Hid (((cornA a ++ cornA b).all fun p => (cornA a ++ cornA b).all fun q => !comesB p q r) = true) := by
      show _ = true
      rw [List.all_eq_true]
      intro p hp
      rw [List.all_eq_true]
      intro q hq
      rw [hall.out p hp q hq]
      rfl
    have HE := Lib.hid he
    have c_hb3 := hb3.cell; have f_hb3 := hb3.frozen; have l_hb3 := hb3.lt; have c_hb4 := hb4.cell; have f_hb4 := hb4.frozen; have l_hb4 := hb4.lt
    clear he hall
    dsimp only
    go_wp2_with fail
    refine (HCO.out _ _ _ _).mono ?_
    rintro e W3 ⟨rfl, h3, hBg3⟩
    simp only [World.size_alloc] at hBg3
    have B03 : Blk W3 W.heap.size 32 #[.int .i64 a.x.lo, .int .i64 a.x.hi, .int .i64 a.y.lo, .int .i64 a.y.hi, .int .i64 b.x.lo, .int .i64 b.x.hi, .int .i64 b.y.lo, .int .i64 b.y.hi] := (Blk.newAt rfl).ext h3
    have eW : Ext W W3 := (Ext.alloc0 _ _).trans h3
    have E3 := HE.out.trans eW
    have J3 := hb3.ext eW
    have J4 := hb4.ext eW
    have J6 := hb6.ext eW
    have hD3 : W3.heap[D]? = some (.deferred (some [])) := (eW.block D (Array.getElem?_eq_some_iff.1 hK).1).trans hK
    have hz3 := eW.size
    have hz30 := E3.size
    have hDl : D < W3.heap.size := (Array.getElem?_eq_some_iff.1 hD3).1
    have n1 : w.heap.size + 1 + 1 + 1 ≠ D := by omega
    clear c_hb3 f_hb3 l_hb3 c_hb4 f_hb4 l_hb4
    clear h3 HE hb3 hb4 hb5 hb6
    go_wp2_with fail
    refine wp_range_Rb (spCorners_iter (W.heap.size + 1) W.heap.size 2 a b w.heap.size W3 hBg3 B03 hz30) rfl Tryz.call346 (fun _ => rfl)
      (fun h k => h.trans k) (KpE.put hz30) (fun l W W' hW e => KpE.of_ext e (by omega)) (ownFrom_pure _ _) (fun x => ownFrom_pure _ _)
      (fun pre V => ((Ext w V ∧ KeepsFrom w2.heap.size W3 V) ∧ Hid (∀ p ∈ pre, sideB (cornA a ++ cornA b) p = false)) ∧ (Blk V w.heap.size 32 #[.int .i64 a.x.lo, .int .i64 a.x.hi, .int .i64 a.y.lo, .int .i64 a.y.hi] ∧ Blk V (w.heap.size + 1) 32 #[.int .i64 b.x.lo, .int .i64 b.x.hi, .int .i64 b.y.lo, .int .i64 b.y.hi] ∧ Blk V (w.heap.size + 1 + 1 + 1) 4 #[.bool false]))
      (fun c pre V => ((Ext w V ∧ KeepsFrom w2.heap.size W3 V) ∧ (c = .ret ∧ Hid (∃ p ∈ cornA a ++ cornA b, sideB (cornA a ++ cornA b) p = true))) ∧ Blk V (w.heap.size + 1 + 1 + 1) 4 #[.bool true])
      (OwnFrom.and (OwnFrom.and (OwnFrom.and (ownFrom_ext hz30) (ownFrom_keepsFrom (Nat.le_refl _))) (ownFrom_pure _ _)) (OwnFrom.and (ownFrom_blk _ _ _ _) (OwnFrom.and (ownFrom_blk _ _ _ _) (ownFrom_blk _ _ _ _))))
      (fun c => OwnFrom.and (OwnFrom.and (OwnFrom.and (ownFrom_ext hz30) (ownFrom_keepsFrom (Nat.le_refl _))) (ownFrom_pure _ _)) (ownFrom_blk _ _ _ _))
      ⟨⟨⟨E3, KeepsFrom.refl _ _⟩, Lib.hid (by intro q hq; cases hq)⟩, J3, J4, J6⟩
      (fun x b t => (t.setIfInBounds 33 (.agg #[.int .i64 x.x, .int .i64 x.y])).setIfInBounds 9 (.pointer (some ⟨b, 0, none⟩))) 28 (fun x => #[.int .i64 x.x, .int .i64 x.y]) ?assign3 ?body3 ?done3 ?stop3
    case assign3 =>
      intro l n x W K hK
      simp only [List.setIfInBounds_toArray, List.set_cons_zero, List.set_cons_succ] at hK
      simp only [vecE]
      gi_wp2
      exact hK
    case body3 =>
      rintro l rl pre p bp V hl hrl hmem hV ⟨⟨⟨he, hkf⟩, hpre⟩, hb3, hb4, hb6⟩ hbp hBp
      simp only [List.setIfInBounds_toArray, List.set_cons_zero, List.set_cons_succ]
      have HC := Lib.hid (HFI.out p hmem V)
      generalize hsg : sideB (cornA a ++ cornA b) p = sg at *
      have HSG := Lib.hid hsg
      have HE := Lib.hid he
      have HKF := Lib.hid hkf
      have c_hb3 := hb3.cell; have f_hb3 := hb3.frozen; have l_hb3 := hb3.lt; have c_hb4 := hb4.cell; have f_hb4 := hb4.frozen; have l_hb4 := hb4.lt; have c_hBp := hBp.cell; have f_hBp := hBp.frozen; have l_hBp := hBp.lt
      clear he hsg hkf
      gi_wp2
      refine ⟨trivial, ?_⟩
      refine (CallsIn.inRound l (callsIn_wide.2 HC.out)).mono ?_
      rintro e V3 ⟨rfl, h3⟩
      have hb63 := hb6.ext h3
      have hz6 := h3.size
      clear c_hb3 f_hb3 l_hb3 c_hb4 f_hb4 l_hb4 c_hBp f_hBp l_hBp
      have l6' := hb63.lt
      have f6' := hb63.frozen
      have c6' := hb63.cell
      cases sg
      · gi_wp2
        refine ⟨h3.keepsFrom _, KpE.of_ext h3 (by omega), ⟨⟨HE.out.trans h3, HKF.out.trans (h3.keepsFrom _)⟩, Lib.hid fun q' hq' => ?_⟩, hb3.ext h3, hb4.ext h3, hb63⟩
        rcases List.mem_append.1 hq' with hq' | hq'
        · exact hpre.out q' hq'
        · simp at hq'; subst hq'; exact HSG.out
      · gi_wp2
        exact ⟨(h3.keepsFrom _).trans ((KeepsOthers.setCell _ _ _).from _), ⟨⟨(HE.out.trans h3).set (by dsimp only; omega) _, HKF.out.trans ((h3.keepsFrom _).trans ((KeepsOthers.setCell _ _ _).from _))⟩, rfl, Lib.hid ⟨p, hmem, HSG.out⟩⟩, hb63.set_ 0 _⟩
    case done3 =>
      rintro D2 xs V hD2 rfl ⟨⟨⟨he, hkf⟩, hpre⟩, hb3, hb4, hb6⟩ hK2
      have hKV : V.heap[D]? = some (.deferred (some [])) := hkf.same D _ hD hD3 rfl
      have c6' := hb6.cell
      have f6' := hb6.frozen
      have l6' := hb6.lt
      have n2 : w.heap.size + 1 + 1 + 1 ≠ D2 := by omega
      dsimp only
      go_wp2_with fail
      refine marks_out (fun X => Ext w X ∧ Blk X (w.heap.size + 1 + 1 + 1) 4 #[.bool false]) (fun D => w2.heap.size ≤ D) (fun X D hD hG hK => ⟨Ext.put hG.1 (by omega), Blk.put hG.2 (by omega)⟩) (fun X hX => ?_) [D2, D] _ (by simp; omega) (fun D' hD' => ?_) ⟨he.set (by dsimp only; omega) _, hb6.set_ 0 _⟩
      · have hc := hX.2.cell
        refine ⟨.bool false, ?_, ?_, hX.1⟩
        · simp only [results, Tryz.results290]
          go_simp
        · refine ret_b ?_
          have h9 : (cornA a ++ cornA b).any (sideB (cornA a ++ cornA b)) = false := by
            rw [List.any_eq_false]
            intro p hp h
            rw [hpre.out p hp] at h
            cases h
          unfold clearL
          rw [h9, Bool.and_false]
      · simp only [List.mem_cons, List.not_mem_nil, or_false] at hD'
        rcases hD' with rfl | rfl
        · exact ⟨by omega, by rw [Below.heap_setCell _ _ _ _ (fun e => n2 e.symm)]; exact hK2⟩
        · exact ⟨hD, by rw [Below.heap_setCell _ _ _ _ (fun e => n1 e.symm)]; exact hKV⟩
    case stop3 =>
      rintro D2 cc pre V hD2 ⟨⟨⟨he, hkf⟩, rfl, hq⟩, hb6⟩ hK2
      have hKV : V.heap[D]? = some (.deferred (some [])) := hkf.same D _ hD hD3 rfl
      dsimp only
      go_wp2_with fail
      refine marks_out (fun X => Ext w X ∧ Blk X (w.heap.size + 1 + 1 + 1) 4 #[.bool true]) (fun D => w2.heap.size ≤ D) (fun X D hD hG hK => ⟨Ext.put hG.1 (by omega), Blk.put hG.2 (by omega)⟩) (fun X hX => ?_) [D2, D] _ (by simp; omega) (fun D' hD' => ?_) ⟨he, hb6⟩
      · have hc := hX.2.cell
        refine ⟨.bool true, ?_, ?_, hX.1⟩
        · simp only [results, Tryz.results290]
          go_simp
        · refine ret_b ?_
          have h9 : (cornA a ++ cornA b).any (sideB (cornA a ++ cornA b)) = true := by
            obtain ⟨p, hp, h⟩ := hq.out
            exact List.any_eq_true.2 ⟨p, hp, h⟩
          unfold clearL
          rw [h9, HA.out]
          rfl
      · simp only [List.mem_cons, List.not_mem_nil, or_false] at hD'
        rcases hD' with rfl | rfl
        · exact ⟨by omega, hK2⟩
        · exact ⟨hD, hKV⟩
  case stop =>
    rintro D cc pre W hD ⟨⟨he, rfl, hq⟩, hb6⟩ hK
    have n1 : w.heap.size + 1 + 1 + 1 ≠ D := by omega
    dsimp only
    go_wp2_with fail
    refine ⟨by simp, .inl ⟨_, _, rfl, run_takeDeferred hK, ?_⟩⟩
    have hB6 := (Blk.put (o := Obj.deferred none) hb6 n1).cell
    refine ⟨.bool false, ?_, ?_, Ext.put he (by omega)⟩
    · simp only [results, Tryz.results290]
      go_simp
    · refine ret_b ?_
      obtain ⟨p, hp1, q, hq1, hq2⟩ := hq.out
      have h9 : ((cornA a ++ cornA b).all fun p => (cornA a ++ cornA b).all fun q => !comesB p q r) = false := by
        rw [List.all_eq_false]
        refine ⟨p, hp1, fun h => ?_⟩
        have h8 := (List.all_eq_true.1 h) q hq1
        rw [hq2] at h8
        cases h8
      unfold clearL
      rw [h9]
      rfl
theorem spClear_c (a b : Ar) (r : Int) (w : World) :
    Calls Tryz.prog 290 #[.agg #[.int .i64 a.x.lo, .int .i64 a.x.hi, .int .i64 a.y.lo, .int .i64 a.y.hi], .agg #[.int .i64 b.x.lo, .int .i64 b.x.hi, .int .i64 b.y.lo, .int .i64 b.y.hi], .int .i64 r] w fun e w' => e = .returned (.bool (clearB a b r)) ∧ Ext w w' := by
  unfold clearB
  cases hr : rightB a b r
  · have HR := Lib.hid fun W => spRight_c a b r W
    rw [hr] at HR
    rw [Bool.false_and]
    clear hr
    go_enter Tryz.func290, Tryz.ntmps290
    go_wp2_with fail
    refine (HR.out _).mono ?_
    rintro e w1 ⟨rfl, h1⟩
    obtain ⟨hc_w1, hf_w1, hz_w1⟩ := bcell h1; (try simp only [szA] at hz_w1); (try have := wz0 w w1); (try have := wz1 w w1); (try have := wz2 w w1); (try have := wz3 w w1); (try have := wz4 w w1)
    go_wp2_with fail
    (try simp only [Exit.inBlock, Exit.then]); apply bodyPost_ret; (focus (simp only [results, Tryz.results290]; go_simp; try rfl)); rfl
    exact ⟨rfl, ext_by⟩
  · rw [Bool.true_and]
    exact spClear_yes a b r w hr
end Go.Proofs.YtiladlangkjoiaaGreat
