/- The span of an operation: the program. No condition. Quotients, squares and roots of spans: the program. No condition. Roots of spans, and which areas are valid: the program. No condition. Which drifts and questions are valid: the program. No condition. The operations on spans that are small enough: the program. No condition. -/
import Derived.Test.YtiladlangkjoiaaGreatPairs
import Derived.Test.YtiladlangkjoiaaGreatExcludes3
import Derived.Test.YtiladlangkjoiaaGreatSpanRoot
import Derived.Test.YtiladlangkjoiaaGreatSlices
import Derived.Test.YtiladlangkjoiaaGreatFreeLast
namespace Go.Proofs.YtiladlangkjoiaaGreat
open Go.RowKit Go.Shelf
attribute [local go_sem] Oper.semAt_some

def accQ (o : Sp) (l : List Quo) : Sp := l.foldl joinQ o
theorem accQ_snoc (o : Sp) (l : List Quo) (q : Quo) : accQ o (l ++ [q]) = ⟨min (accQ o l).lo q.lo, max (accQ o l).hi q.hi⟩ := by unfold accQ; rw [List.foldl_append]; rfl
theorem joinAll_all : ∀ (l : List Quo) (o : Sp), (∀ q ∈ l, q.e = 0) → joinAll l o = ⟨accQ o l, 0⟩
  | [], _, _ => rfl
  | q :: l, o, h => by
    rw [joinAll, if_pos (h q (by simp)), joinAll_all l _ fun x hx => h x (by simp [hx])]
    rfl
theorem joinAll_bad : ∀ (l : List Quo) (o : Sp) (q : Quo) (r : List Quo), (∀ q ∈ l, q.e = 0) → q.e ≠ 0 → joinAll (l ++ q :: r) o = noSp q.e
  | [], o, q, r, _, h => by rw [List.nil_append, joinAll, if_neg h]
  | x :: l, o, q, r, h, hq => by
    rw [List.cons_append, joinAll, if_pos (h x (by simp)), joinAll_bad l _ q r (fun y hy => h y (by simp [hy])) hq]
def lastE {β : Type} (f : β → Quo) (s : List β) : Int := match s.getLast? with | some x => (f x).e | none => 0
theorem lastE_snoc {β : Type} (f : β → Quo) (s : List β) (x : β) : lastE f (s ++ [x]) = (f x).e := by simp [lastE]
theorem joinAll_stop {β : Type} {f : β → Quo} {L pre s : List β} {x : β} {o : Sp} (hs : s = pre ++ [x]) (hp : s <+: L) (h : ∀ v ∈ pre, (f v).e = 0) (hx : (f x).e ≠ 0) : joinAll (L.map f) o = noSp (lastE f s) := by
  subst hs
  obtain ⟨r, rfl⟩ := hp
  rw [lastE_snoc, List.append_assoc, List.map_append, List.map_append]
  exact joinAll_bad _ _ _ _ (by simpa using h) hx
set_option maxRecDepth 100000 in
set_option maxHeartbeats 2000000 in
theorem spCombine_ok (al ah bl bh : Int) (fid : Nat) (cap : Array Value) (f : Int → Int → Quo) (w : World) (h0 : sp2Err ⟨al, ah⟩ ⟨bl, bh⟩ = 0)
    (hcall : ∀ (xs : Array Value) (W : World), (callFunc fid xs).run Tryz.prog W = .ok (.enter fid xs) W)
    (hf : ∀ p ∈ pairsV al ah bl bh, ∀ W, Ext w W → Calls Tryz.prog fid (#[.int .i64 p.1, .int .i64 p.2] ++ cap) W fun e w' => e = .returned (quoV (f p.1 p.2)) ∧ Ext W w') :
    Calls Tryz.prog 234 #[.agg #[.int .i64 al, .int .i64 ah], .agg #[.int .i64 bl, .int .i64 bh], .func (.func fid) #[] cap] w fun e w' => e = .returned (spRV (combM f ⟨al, ah⟩ ⟨bl, bh⟩)) ∧ Ext w w' := by
  have HV := Lib.hid fun W => spValid_c al ah bl bh W
  rw [h0] at HV
  have HPR := Lib.hid fun W => spPairs_c al ah bl bh W
  have Hf := Lib.hid hf
  generalize hR : combM f ⟨al, ah⟩ ⟨bl, bh⟩ = R
  unfold combM at hR
  rw [if_pos h0] at hR
  have HR : Hid (joinAll ((pairsV al ah bl bh).map fun p => f p.1 p.2) ⟨1152921504606846976, -1152921504606846976⟩ = R) := hR
  clear hf hR h0
  refine (callsIn_wide (n := 6)).1 (callsIn_of_wp_marks Tryz.func234 rfl trivial ?_)
  simp only [Tryz.ntmps234, List.size_toArray, List.length_cons, List.length_nil, Nat.reduceAdd, Nat.reduceSub, Array.replicate_succ, Array.replicate_zero, List.push_toArray, List.append_toArray, List.nil_append, List.cons_append]
  refine wpIn_wide.2 ?_
  go_wp2_with fail
  refine (HV.out _).mono ?_
  rintro e w1 ⟨rfl, h1⟩
  obtain ⟨hc_w1, hf_w1, hz_w1⟩ := bcell h1; (try simp only [szA] at hz_w1); (try have := wz0 w w1); (try have := wz1 w w1); (try have := wz2 w w1); (try have := wz3 w w1); (try have := wz4 w w1)
  go_wp2_with fail
  refine (HPR.out _).mono ?_
  rintro e w2 ⟨b, rfl, h2, hb0, hB⟩
  obtain ⟨hc_w2, hf_w2, hz_w2⟩ := bcell h2; (try simp only [szA] at hz_w2); (try have := wz0 w w2); (try have := wz1 w w2); (try have := wz2 w w2); (try have := wz3 w w2); (try have := wz4 w w2)
  go_wp2_with fail
  have hB5 : Blk w2 (w.heap.size + 1 + 1) 284 #[.func (.func fid) #[] cap] := Blk.ext (((Blk.ext (((Blk.newAt (by simp)).alloc _).alloc _)) h1).alloc _) h2
  have hB6 : Blk w2 (w.heap.size + 1 + 1 + 1) 26 #[.int .i64 0, .int .i64 0] := Blk.ext (((Blk.ext ((Blk.newAt (by simp)).alloc _)) h1).alloc _) h2
  have hB7 : Blk w2 (w.heap.size + 1 + 1 + 1 + 1) 40 #[.int .i64 0] := Blk.ext (((Blk.ext (Blk.newAt (by simp))) h1).alloc _) h2
  have hB9 : Blk w2 w1.heap.size 26 #[.int .i64 1152921504606846976, .int .i64 (-1152921504606846976)] := Blk.ext (Blk.newAt (by simp)) h2
  have he2 : Ext w w2 := ext_by
  have hb1 : w1.heap.size < b := by rw [World.size_alloc] at hb0; omega
  clear hb0
  clear h1 h2 hc_w1 hf_w1 hz_w1 hc_w2 hf_w2 HV HPR
  generalize w1.heap.size = z9 at *
  have e0 := Lib.hid he2
  refine wp_range_flat (nb := w.heap.size) (spPairs_iter _ _ al ah bl bh w.heap.size w2 hB) rfl Tryz.call316 (by omega) (fun _ => rfl)
    (fun pre W => (((∀ v ∈ pre, (f v.1 v.2).e = 0) ∧ Ext w W) ∧ Blk W (w.heap.size + 1 + 1) 284 #[.func (.func fid) #[] cap]) ∧ Blk W (w.heap.size + 1 + 1 + 1) 26 #[.int .i64 0, .int .i64 0] ∧ Blk W (w.heap.size + 1 + 1 + 1 + 1) 40 #[.int .i64 0] ∧ Blk W z9 26 #[.int .i64 (accQ ⟨1152921504606846976, -1152921504606846976⟩ (pre.map fun p => f p.1 p.2)).lo, .int .i64 (accQ ⟨1152921504606846976, -1152921504606846976⟩ (pre.map fun p => f p.1 p.2)).hi])
    (fun c s W => ((c = .ret ∧ ∃ pre x, s = pre ++ [x] ∧ (∀ v ∈ pre, (f v.1 v.2).e = 0) ∧ (f x.1 x.2).e ≠ 0) ∧ Ext w W) ∧ Blk W (w.heap.size + 1 + 1 + 1) 26 #[.int .i64 0, .int .i64 0] ∧ Blk W (w.heap.size + 1 + 1 + 1 + 1) 40 #[.int .i64 (lastE (fun p : Int × Int => f p.1 p.2) s)])
    (OwnFrom.and (OwnFrom.and (OwnFrom.and (ownFrom_pure _ _) (ownFrom_ext (by omega))) (ownFrom_blk _ _ _ _)) (OwnFrom.and (ownFrom_blk _ _ _ _) (OwnFrom.and (ownFrom_blk _ _ _ _) (ownFrom_blk _ _ _ _))))
    (fun c => OwnFrom.and (OwnFrom.and (ownFrom_pure _ _) (ownFrom_ext (by omega))) (OwnFrom.and (ownFrom_blk _ _ _ _) (ownFrom_blk _ _ _ _)))
    ⟨⟨⟨by simp, he2⟩, hB5⟩, hB6, hB7, hB9⟩
    (fun x t => (((t.setIfInBounds 26 (.int .i64 x.1)).setIfInBounds 27 (.int .i64 x.2)).setIfInBounds 10 (.int .i64 x.1)).setIfInBounds 11 (.int .i64 x.2)) ?assign ?body ?done ?stop
  case assign =>
    intro l n x W K hK
    simp only [List.setIfInBounds_toArray, List.set_cons_zero, List.set_cons_succ] at hK
    simp only [pairE]
    gi_wp2
    exact hK
  case body =>
    rintro l n pre x W hx hW ⟨⟨⟨hp, he⟩, hb5⟩, hb6, hb7, hb9⟩
    simp only [List.setIfInBounds_toArray, List.set_cons_zero, List.set_cons_succ]
    have hc5 := hb5.cell
    have hc6 := hb6.cell
    have hc7 := hb7.cell
    have hc9 := hb9.cell
    have hf6 := hb6.frozen
    have hf7 := hb7.frozen
    have hf9 := hb9.frozen
    have hl5 := hb5.lt
    have hl6 := hb6.lt
    have hl7 := hb7.lt
    have hl9 := hb9.lt
    have hfx := Hf.out x hx W he
    obtain ⟨⟨lo, hi, er⟩, hv⟩ : ∃ v, f x.1 x.2 = v := ⟨_, rfl⟩
    rw [hv] at hfx
    obtain ⟨⟨ol, oh⟩, hacc⟩ : ∃ v, accQ ⟨1152921504606846976, -1152921504606846976⟩ (pre.map fun p => f p.1 p.2) = v := ⟨_, rfl⟩
    rw [hacc] at hb9 hc9
    have HA := Lib.hid hacc
    have HFx := Lib.hid hfx
    have HV := Lib.hid hv
    have HB5 := Lib.hid hb5
    have HB6 := Lib.hid hb6
    have HB7 := Lib.hid hb7
    have HB9 := Lib.hid hb9
    have HP := Lib.hid hp
    have HE := Lib.hid he
    have hne : z9 ≠ w.heap.size + 1 + 1 + 1 ∧ z9 ≠ w.heap.size + 1 + 1 + 1 + 1 := by omega
    clear hb5 hb6 hb7 hb9 hp hfx hv he hacc
    gi_wp2
    refine ⟨trivial, ?_⟩
    refine ⟨fun h => (by cases h), (CallsIn.inRound l (callsIn_wide.2 HFx.out)).mono ?_⟩
    rintro e w' ⟨rfl, h1⟩
    have HB5' := Lib.hid (HB5.out.ext h1)
    have HB6' := Lib.hid (HB6.out.ext h1)
    have HB7' := Lib.hid (HB7.out.ext h1)
    have HB9' := Lib.hid (HB9.out.ext h1)
    have H1 := Lib.hid h1
    clear hc5 hc6 hc7 hc9 hf6 hf7 hf9 h1
    have hc6 := HB6'.out.cell
    have hc7 := HB7'.out.cell
    have hc9 := HB9'.out.cell
    have hf6 := HB6'.out.frozen
    have hf7 := HB7'.out.frozen
    have hf9 := HB9'.out.frozen
    have hl6 := HB6'.out.lt
    have hl7 := HB7'.out.lt
    have hl9 := HB9'.out.lt
    by_cases her : er = 0
    · subst her
      gi_wp2
      refine ⟨(H1.out.keepsFrom _).trans (((KeepsOthers.setCell _ _ _).from _).trans ((KeepsOthers.setCell _ _ _).from _)), ((H1.out.kpX (by omega) _).set (by dsimp only; omega) (by simp; omega) _).set (by dsimp only; omega) (by simp; omega) _, ?_⟩
      refine ⟨⟨⟨?_, ((HE.out.trans H1.out).set (by dsimp only; omega) _).set (by dsimp only; omega) _⟩, (HB5'.out.far (by dsimp only; omega) _).far (by dsimp only; omega) _⟩, (HB6'.out.far (by dsimp only; omega) _).far (by dsimp only; omega) _, (HB7'.out.far (by dsimp only; omega) _).far (by dsimp only; omega) _, ?_⟩
      · intro q hq
        rcases List.mem_append.1 hq with hq | hq
        · exact HP.out q hq
        · simp at hq; subst hq; rw [HV.out]
      · rw [List.map_append, List.map_singleton, accQ_snoc, HA.out, HV.out]
        exact (HB9'.out.set_ 0 _).set_ 1 _
    · gi_wp2
      refine ⟨(H1.out.keepsFrom _).trans (((KeepsOthers.setCell _ _ _).from _).trans (((KeepsOthers.setCell _ _ _).from _).trans ((KeepsOthers.setCell _ _ _).from _))), ?_⟩
      refine ⟨⟨⟨rfl, pre, x, rfl, HP.out, by rw [HV.out]; exact her⟩, (((HE.out.trans H1.out).set (by dsimp only; omega) _).set (by dsimp only; omega) _).set (by dsimp only; omega) _⟩, ((HB6'.out.set_ 0 _).set_ 1 _).far (by dsimp only; omega) _, ?_⟩
      rw [lastE_snoc, HV.out]
      exact ((HB7'.out.far (by dsimp only; omega) _).far (by dsimp only; omega) _).set_ 0 _
  case done =>
    rintro D W hD ⟨⟨⟨hp, he⟩, hb5⟩, hb6, hb7, hb9⟩ hK
    have hR2 := HR.out
    rw [joinAll_all _ _ (by simpa using hp)] at hR2
    generalize accQ _ _ = o at *
    obtain ⟨ol, oh⟩ := o
    subst hR2
    have hc6 := hb6.cell
    have hc7 := hb7.cell
    have hc9 := hb9.cell
    have hf6 := hb6.frozen
    have hf7 := hb7.frozen
    have hl6 := hb6.lt
    have hl7 := hb7.lt
    have hl9 := hb9.lt
    have n1 : w.heap.size + 1 + 1 + 1 ≠ D := by omega
    have n2 : w.heap.size + 1 + 1 + 1 + 1 ≠ D := by omega
    dsimp only
    go_wp2_with fail
    refine ⟨by simp, .inl ⟨_, _, rfl, run_takeDeferred (by rw [Below.heap_setCell _ _ _ _ (fun e => n2 e.symm), Below.heap_setCell _ _ _ _ (fun e => n1 e.symm), Below.heap_setCell _ _ _ _ (fun e => n1 e.symm)]; exact hK), ?_⟩⟩
    have hB6 := (Blk.put (o := Obj.deferred none) (((hb6.set_ 0 (.int .i64 ol)).set_ 1 (.int .i64 oh)).far (p := ⟨w.heap.size + 1 + 1 + 1 + 1, 0, none⟩) (by dsimp only; omega) (.int .i64 0)) n1).cell
    have hB7 := (Blk.put (o := Obj.deferred none) (((hb7.far (p := ⟨w.heap.size + 1 + 1 + 1, 0, none⟩) (by dsimp only; omega) (.int .i64 ol)).far (p := ⟨w.heap.size + 1 + 1 + 1, 1, none⟩) (by dsimp only; omega) (.int .i64 oh)).set_ 0 (.int .i64 0)) n2).cell
    refine ⟨_, ?_, rfl, Ext.put (((he.set (by dsimp only; omega) _).set (by dsimp only; omega) _).set (by dsimp only; omega) _) (by omega)⟩
    simp only [results, Tryz.results234]
    go_simp
  case stop =>
    rintro D c s W hD hpre ⟨⟨⟨rfl, pre, x, hs, hp, hx⟩, he⟩, hb6, hb7⟩ hK
    have hR2 := HR.out.symm.trans (joinAll_stop (f := fun p : Int × Int => f p.1 p.2) hs hpre hp hx)
    generalize lastE _ s = er at hR2 hb7
    subst hR2
    have n1 : w.heap.size + 1 + 1 + 1 ≠ D := by omega
    have n2 : w.heap.size + 1 + 1 + 1 + 1 ≠ D := by omega
    dsimp only
    go_wp2_with fail
    refine ⟨by simp, .inl ⟨_, _, rfl, run_takeDeferred hK, ?_⟩⟩
    have hB6 := (Blk.put (o := Obj.deferred none) hb6 n1).cell
    have hB7 := (Blk.put (o := Obj.deferred none) hb7 n2).cell
    refine ⟨_, ?_, rfl, Ext.put he (by omega)⟩
    simp only [results, Tryz.results234]
    go_simp
    exact ⟨⟨rfl, rfl⟩, rfl⟩

set_option maxHeartbeats 1000000 in
theorem spCombine_no (al ah bl bh : Int) (fid : Nat) (cap : Array Value) (w : World) (h0 : sp2Err ⟨al, ah⟩ ⟨bl, bh⟩ ≠ 0) :
    Calls Tryz.prog 234 #[.agg #[.int .i64 al, .int .i64 ah], .agg #[.int .i64 bl, .int .i64 bh], .func (.func fid) #[] cap] w fun e w' => e = .returned (spRV (noSp (sp2Err ⟨al, ah⟩ ⟨bl, bh⟩))) ∧ Ext w w' := by
  have HV := Lib.hid fun W => spValid_c al ah bl bh W
  generalize sp2Err ⟨al, ah⟩ ⟨bl, bh⟩ = E at *
  go_enter Tryz.func234, Tryz.ntmps234
  go_wp2_with fail
  refine (HV.out _).mono ?_
  rintro e w1 ⟨rfl, h1⟩
  obtain ⟨hc_w1, hf_w1, hz_w1⟩ := bcell h1; (try simp only [szA] at hz_w1); (try have := wz0 w w1); (try have := wz1 w w1); (try have := wz2 w w1); (try have := wz3 w w1); (try have := wz4 w w1)
  go_wp2_with fail
  (try simp only [Exit.inBlock, Exit.then]); apply bodyPost_ret; (focus (simp only [results, Tryz.results234]; go_simp; try rfl)); rfl
  exact ⟨rfl, ext_by⟩
theorem pairs_i64 {al ah bl bh : Int} (h0 : sp2Err ⟨al, ah⟩ ⟨bl, bh⟩ = 0) : (∀ p ∈ pairsV al ah bl bh, isI64 p.1 ∧ isI64 p.2) ∧ -1152921504606846976 ≤ al ∧ al ≤ ah ∧ ah ≤ 1152921504606846976 ∧ -1152921504606846976 ≤ bl ∧ bl ≤ bh ∧ bh ≤ 1152921504606846976 := by
  have hb : (-1152921504606846976 ≤ al ∧ al ≤ ah ∧ ah ≤ 1152921504606846976) ∧ -1152921504606846976 ≤ bl ∧ bl ≤ bh ∧ bh ≤ 1152921504606846976 := by
    unfold sp2Err at h0
    by_cases h1 : spErr ⟨al, ah⟩ = 0
    · rw [if_pos h1] at h0
      exact ⟨spErr_ok.1 h1, spErr_ok.1 h0⟩
    · rw [if_neg h1] at h0
      exact absurd h0 h1
  refine ⟨fun p hp => ?_, by omega⟩
  unfold isI64
  simp only [pairsV, List.mem_cons, List.not_mem_nil, or_false] at hp
  rcases hp with rfl | rfl | rfl | rfl
  all_goals dsimp only
  all_goals omega
set_option maxHeartbeats 1000000 in
theorem spMul_c (al ah bl bh : Int) (w : World) :
    Calls Tryz.prog 168 #[.agg #[.int .i64 al, .int .i64 ah], .agg #[.int .i64 bl, .int .i64 bh]] w fun e w' => e = .returned (spRV (mulM ⟨al, ah⟩ ⟨bl, bh⟩)) ∧ Ext w w' := by
  have H : Hid (∀ W, Calls Tryz.prog 234 #[.agg #[.int .i64 al, .int .i64 ah], .agg #[.int .i64 bl, .int .i64 bh], .func (.func 235) #[] #[]] W fun e w' => e = .returned (spRV (mulM ⟨al, ah⟩ ⟨bl, bh⟩)) ∧ Ext W w') := Lib.hid fun W => by
    by_cases h0 : sp2Err ⟨al, ah⟩ ⟨bl, bh⟩ = 0
    · exact spCombine_ok al ah bl bh _ #[] mulF W h0 Tryz.call235 fun p hp W2 _ => spMul1_c p.1 p.2 W2 ((pairs_i64 h0).1 p hp).1 ((pairs_i64 h0).1 p hp).2
    · unfold mulM combM
      rw [if_neg h0]
      exact spCombine_no al ah bl bh _ _ W h0
  generalize mulM _ _ = R at *
  obtain ⟨⟨rl, rh⟩, re⟩ := R
  go_enter Tryz.func168, Tryz.ntmps168
  go_wp2_with fail
  refine (H.out _).mono ?_
  rintro e w1 ⟨rfl, h1⟩
  obtain ⟨hc_w1, hf_w1, hz_w1⟩ := bcell h1; (try simp only [szA] at hz_w1); (try have := wz0 w w1); (try have := wz1 w w1); (try have := wz2 w w1); (try have := wz3 w w1); (try have := wz4 w w1)
  go_wp2_with fail
  (try simp only [Exit.inBlock, Exit.then]); apply bodyPost_ret; (focus (simp only [results, Tryz.results168]; go_simp; try rfl)); rfl
  exact ⟨rfl, ext_by⟩
end Go.Proofs.YtiladlangkjoiaaGreat

namespace Go.Proofs.YtiladlangkjoiaaGreat
open Go.RowKit

set_option maxHeartbeats 1000000 in
theorem spIn_c (lo hi n : Int) (w : World) (h0 : spErr ⟨lo, hi⟩ = 0) :
    Calls Tryz.prog 238 #[.agg #[.int .i64 lo, .int .i64 hi], .int .i64 n] w fun e w' => e = .returned (.bool (within n lo hi)) ∧ Ext w w' := by
  have H1 := Lib.hid fun W => spCheck_c lo hi W
  rw [h0] at H1
  have H2 := Lib.hid fun W => sp_within_c n lo hi W
  generalize within n lo hi = b at *
  clear h0
  go_enter Tryz.func238, Tryz.ntmps238
  go_wp2_with fail
  refine (H1.out _).mono ?_
  rintro e w1 ⟨rfl, h1⟩
  obtain ⟨hc_w1, hf_w1, hz_w1⟩ := bcell h1; (try simp only [szA] at hz_w1); (try have := wz0 w w1); (try have := wz1 w w1); (try have := wz2 w w1); (try have := wz3 w w1); (try have := wz4 w w1)
  go_wp2_with fail
  refine (H2.out _).mono ?_
  rintro e _ ⟨rfl, rfl⟩
  go_wp2_with fail
  go_ret
  exact ⟨rfl, ext_by⟩
set_option maxHeartbeats 1000000 in
theorem spQuot_c (al ah bl bh : Int) (w : World) :
    Calls Tryz.prog 169 #[.agg #[.int .i64 al, .int .i64 ah], .agg #[.int .i64 bl, .int .i64 bh]] w fun e w' => e = .returned (spRV (quotM ⟨al, ah⟩ ⟨bl, bh⟩)) ∧ Ext w w' := by
  have HV := Lib.hid fun W => spValid_c al ah bl bh W
  by_cases h0 : sp2Err ⟨al, ah⟩ ⟨bl, bh⟩ = 0
  · obtain ⟨hp, h1⟩ := pairs_i64 h0
    have HI := Lib.hid fun W => spIn_c bl bh 0 W (spErr_ok.2 (by dsimp only; omega))
    rw [h0] at HV
    unfold quotM
    rw [if_pos h0]
    by_cases hz : within 0 bl bh = true
    · rw [if_pos hz]
      rw [hz] at HI
      clear h0 hp h1 hz
      go_enter Tryz.func169, Tryz.ntmps169
      go_wp2_with fail
      refine (HV.out _).mono ?_
      rintro e w1 ⟨rfl, h1⟩
      obtain ⟨hc_w1, hf_w1, hz_w1⟩ := bcell h1; (try simp only [szA] at hz_w1); (try have := wz0 w w1); (try have := wz1 w w1); (try have := wz2 w w1); (try have := wz3 w w1); (try have := wz4 w w1)
      go_wp2_with fail
      refine (HI.out _).mono ?_
      rintro e w2 ⟨rfl, h2⟩
      obtain ⟨hc_w2, hf_w2, hz_w2⟩ := bcell h2; (try simp only [szA] at hz_w2); (try have := wz0 w w2); (try have := wz1 w w2); (try have := wz2 w w2); (try have := wz3 w w2); (try have := wz4 w w2)
      go_wp2_with fail
      (try simp only [Exit.inBlock, Exit.then]); apply bodyPost_ret; (focus (simp only [results, Tryz.results169]; go_simp; try rfl)); rfl
      exact ⟨rfl, ext_by⟩
    · rw [if_neg hz]
      have hz' : within 0 bl bh = false := by simpa using hz
      rw [hz'] at HI
      have hy : ∀ p ∈ pairsV al ah bl bh, p.2 ≠ 0 := by
        intro p hp
        simp only [pairsV, List.mem_cons, List.not_mem_nil, or_false] at hp
        unfold within at hz'
        simp only [Bool.and_eq_false_imp, decide_eq_true_eq, decide_eq_false_iff_not] at hz'
        rcases hp with rfl | rfl | rfl | rfl
        all_goals dsimp only
        all_goals omega
      have H : Hid (∀ W, Calls Tryz.prog 234 #[.agg #[.int .i64 al, .int .i64 ah], .agg #[.int .i64 bl, .int .i64 bh], .func (.func 239) #[] #[]] W fun e w' => e = .returned (spRV (combM quotF ⟨al, ah⟩ ⟨bl, bh⟩)) ∧ Ext W w') := Lib.hid fun W =>
        spCombine_ok al ah bl bh _ #[] quotF W h0 Tryz.call239 fun p h W2 _ => spQuot1_c p.1 p.2 W2 (hp p h).1 (hp p h).2 (hy p h)
      generalize combM _ _ _ = R at *
      obtain ⟨⟨rl, rh⟩, re⟩ := R
      clear h0 hp h1 hz hz' hy
      go_enter Tryz.func169, Tryz.ntmps169
      go_wp2_with fail
      refine (HV.out _).mono ?_
      rintro e w1 ⟨rfl, h1⟩
      obtain ⟨hc_w1, hf_w1, hz_w1⟩ := bcell h1; (try simp only [szA] at hz_w1); (try have := wz0 w w1); (try have := wz1 w w1); (try have := wz2 w w1); (try have := wz3 w w1); (try have := wz4 w w1)
      go_wp2_with fail
      refine (HI.out _).mono ?_
      rintro e w2 ⟨rfl, h2⟩
      obtain ⟨hc_w2, hf_w2, hz_w2⟩ := bcell h2; (try simp only [szA] at hz_w2); (try have := wz0 w w2); (try have := wz1 w w2); (try have := wz2 w w2); (try have := wz3 w w2); (try have := wz4 w w2)
      go_wp2_with fail
      refine (H.out _).mono ?_
      rintro e w3 ⟨rfl, h3⟩
      obtain ⟨hc_w3, hf_w3, hz_w3⟩ := bcell h3; (try simp only [szA] at hz_w3); (try have := wz0 w w3); (try have := wz1 w w3); (try have := wz2 w w3); (try have := wz3 w w3); (try have := wz4 w w3)
      go_wp2_with fail
      (try simp only [Exit.inBlock, Exit.then]); apply bodyPost_ret; (focus (simp only [results, Tryz.results169]; go_simp; try rfl)); rfl
      exact ⟨rfl, ext_by⟩
  · unfold quotM
    rw [if_neg h0]
    generalize sp2Err ⟨al, ah⟩ ⟨bl, bh⟩ = E at *
    go_enter Tryz.func169, Tryz.ntmps169
    go_wp2_with fail
    refine (HV.out _).mono ?_
    rintro e w1 ⟨rfl, h1⟩
    obtain ⟨hc_w1, hf_w1, hz_w1⟩ := bcell h1; (try simp only [szA] at hz_w1); (try have := wz0 w w1); (try have := wz1 w w1); (try have := wz2 w w1); (try have := wz3 w w1); (try have := wz4 w w1)
    go_wp2_with fail
    (try simp only [Exit.inBlock, Exit.then]); apply bodyPost_ret; (focus (simp only [results, Tryz.results169]; go_simp; try rfl)); rfl
    exact ⟨rfl, ext_by⟩
set_option maxRecDepth 20000 in
set_option maxHeartbeats 2000000 in
theorem spSquare_c (lo hi : Int) (w : World) :
    Calls Tryz.prog 167 #[.agg #[.int .i64 lo, .int .i64 hi]] w fun e w' => e = .returned (spRV (squareM ⟨lo, hi⟩)) ∧ Ext w w' := by
  have HV := Lib.hid fun W => spCheck_c lo hi W
  unfold squareM
  by_cases h0 : spErr ⟨lo, hi⟩ = 0
  · obtain ⟨h1, h2, h3⟩ := spErr_ok.1 h0
    dsimp only at h1 h2 h3
    rw [if_pos h0]
    rw [h0] at HV
    have hhm : highM ⟨lo, hi⟩ = max (-lo) hi := rfl
    rw [hhm]
    obtain ⟨L, hL, hc⟩ : ∃ L, lowM ⟨lo, hi⟩ = L ∧ ((L = 0 ∧ lo ≤ 0 ∧ 0 ≤ hi) ∨ (L = lo ∧ 0 < lo) ∨ (L = -hi ∧ hi < 0)) := by
      refine ⟨_, rfl, ?_⟩
      unfold lowM
      dsimp only
      omega
    rw [hL]
    have hLb : 0 ≤ L ∧ L ≤ max (-lo) hi := by omega
    have m1 : 0 ≤ L * L := Int.mul_nonneg hLb.1 hLb.1
    have m2 : L * L ≤ max (-lo) hi * max (-lo) hi := Int.mul_le_mul hLb.2 hLb.2 hLb.1 (by omega)
    clear h0 hhm hL
    by_cases hu : 1073741824 < max (-lo) hi
    · rw [if_pos hu]
      clear m1 m2 hLb
      rcases hc with ⟨rfl, k1, k2⟩ | ⟨rfl, k1⟩ | ⟨rfl, k1⟩
      all_goals
        go_enter Tryz.func167, Tryz.ntmps167
        go_wp2_with fail
        refine (HV.out _).mono ?_
        rintro e w1 ⟨rfl, h1⟩
        obtain ⟨hc_w1, hf_w1, hz_w1⟩ := bcell h1; (try simp only [szA] at hz_w1); (try have := wz0 w w1); (try have := wz1 w w1); (try have := wz2 w w1); (try have := wz3 w w1); (try have := wz4 w w1)
        go_wp2_with fail
        refine wp_region_text (by kernel_rfl) (by kernel_rfl) ?_
        (repeat' (first | (refine bl_off (by rfl) ?_; simp only [putX]) | (apply bl_op; rfl; (intro w1 h1; obtain ⟨hc, hf, hz⟩ := bcell h1; go_simp; (try go_bits); (first | exact ⟨rfl, Ext.refl _⟩)); simp only [putX]) | (refine bl_split rfl rfl (fun hx => ?_) (fun hx => ?_) <;> simp only [hx])))
        refine bl_nil ?_
        intro w2 h2
        obtain ⟨hc_w2, hf_w2, hz_w2⟩ := bcell h2; (try simp only [szA] at hz_w2); (try have := wz0 w w2); (try have := wz1 w w2); (try have := wz2 w w2); (try have := wz3 w w2); (try have := wz4 w w2)
        go_wp2_with fail
        (try simp only [Exit.inBlock, Exit.then]); apply bodyPost_ret; (focus (simp only [results, Tryz.results167]; go_simp; try rfl)); rfl
        exact ⟨rfl, ext_by⟩
    · rw [if_neg hu]
      have m3 : max (-lo) hi * max (-lo) hi ≤ 1152921504606846976 := by
        have := Int.mul_le_mul (show max (-lo) hi ≤ 1073741824 by omega) (show max (-lo) hi ≤ (1073741824 : Int) by omega) (by omega) (by omega)
        omega
      have HE := Lib.hid fun W => ends_c (L * L) (max (-lo) hi * max (-lo) hi) W
      generalize endsM _ _ = R at *
      obtain ⟨⟨rl, rh⟩, re⟩ := R
      rcases hc with ⟨rfl, k1, k2⟩ | ⟨rfl, k1⟩ | ⟨rfl, k1⟩
      all_goals
        go_enter Tryz.func167, Tryz.ntmps167
        go_wp2_with fail
        refine (HV.out _).mono ?_
        rintro e w1 ⟨rfl, h1⟩
        obtain ⟨hc_w1, hf_w1, hz_w1⟩ := bcell h1; (try simp only [szA] at hz_w1); (try have := wz0 w w1); (try have := wz1 w w1); (try have := wz2 w w1); (try have := wz3 w w1); (try have := wz4 w w1)
        go_wp2_with fail
        refine wp_region_text (by kernel_rfl) (by kernel_rfl) ?_
        (repeat' (first | (refine bl_off (by rfl) ?_; simp only [putX]) | (apply bl_op; rfl; (intro w1 h1; obtain ⟨hc, hf, hz⟩ := bcell h1; go_simp; (try go_bits); (first | exact ⟨rfl, Ext.refl _⟩)); simp only [putX]) | (refine bl_split rfl rfl (fun hx => ?_) (fun hx => ?_) <;> simp only [hx])))
        refine bl_nil ?_
        intro w2 h2
        obtain ⟨hc_w2, hf_w2, hz_w2⟩ := bcell h2; (try simp only [szA] at hz_w2); (try have := wz0 w w2); (try have := wz1 w w2); (try have := wz2 w w2); (try have := wz3 w w2); (try have := wz4 w w2)
        go_wp2_with fail
        refine (HE.out _).mono ?_
        rintro e w3 ⟨rfl, h3⟩
        obtain ⟨hc_w3, hf_w3, hz_w3⟩ := bcell h3; (try simp only [szA] at hz_w3); (try have := wz0 w w3); (try have := wz1 w w3); (try have := wz2 w w3); (try have := wz3 w w3); (try have := wz4 w w3)
        go_wp2_with fail
        (try simp only [Exit.inBlock, Exit.then]); apply bodyPost_ret; (focus (simp only [results, Tryz.results167]; go_simp; try rfl)); rfl
        exact ⟨rfl, ext_by⟩
  · rw [if_neg h0]
    generalize spErr ⟨lo, hi⟩ = E at *
    go_enter Tryz.func167, Tryz.ntmps167
    go_wp2_with fail
    refine (HV.out _).mono ?_
    rintro e w1 ⟨rfl, h1⟩
    obtain ⟨hc_w1, hf_w1, hz_w1⟩ := bcell h1; (try simp only [szA] at hz_w1); (try have := wz0 w w1); (try have := wz1 w w1); (try have := wz2 w w1); (try have := wz3 w w1); (try have := wz4 w w1)
    go_wp2_with fail
    (try simp only [Exit.inBlock, Exit.then]); apply bodyPost_ret; (focus (simp only [results, Tryz.results167]; go_simp; try rfl)); rfl
    exact ⟨rfl, ext_by⟩
end Go.Proofs.YtiladlangkjoiaaGreat

namespace Go.Proofs.YtiladlangkjoiaaGreat
open Go.RowKit

set_option maxHeartbeats 1000000 in
theorem spRoots_c (lo hi : Int) (w : World) :
    Calls Tryz.prog 165 #[.agg #[.int .i64 lo, .int .i64 hi]] w fun e w' => e = .returned (spRV (rootsM ⟨lo, hi⟩)) ∧ Ext w w' := by
  have HV := Lib.hid fun W => spCheck_c lo hi W
  unfold rootsM
  by_cases h0 : spErr ⟨lo, hi⟩ = 0
  · obtain ⟨h1, h2, h3⟩ := spErr_ok.1 h0
    dsimp only at h1 h2 h3
    rw [if_pos h0]
    rw [h0] at HV
    dsimp only
    by_cases hn : lo < 0
    · rw [if_pos hn]
      clear h0
      go_enter Tryz.func165, Tryz.ntmps165
      go_wp2_with fail
      refine (HV.out _).mono ?_
      rintro e w1 ⟨rfl, h1⟩
      obtain ⟨hc_w1, hf_w1, hz_w1⟩ := bcell h1; (try simp only [szA] at hz_w1); (try have := wz0 w w1); (try have := wz1 w w1); (try have := wz2 w w1); (try have := wz3 w w1); (try have := wz4 w w1)
      go_wp2_with fail
      (try simp only [Exit.inBlock, Exit.then]); apply bodyPost_ret; (focus (simp only [results, Tryz.results165]; go_simp; try rfl)); rfl
      exact ⟨rfl, ext_by⟩
    · rw [if_neg hn]
      have R1 := Lib.hid fun W => spRoot_c hi W (by omega) (by omega)
      have R2 := Lib.hid fun W => spRoot_c lo W (by omega) (by omega)
      have b := rootI_mono (a := lo) (b := hi) (by omega) (by omega) (by omega)
      have e1 : (rootN hi.toNat : Int) = rootI hi := by unfold rootI; rw [if_neg (by omega)]
      have e2 : (rootN lo.toNat : Int) = rootI lo := by unfold rootI; rw [if_neg (by omega)]
      rw [e1] at R1
      rw [e2] at R2
      unfold upM at b ⊢
      generalize rootI lo = r2 at *
      generalize rootI hi = r1 at *
      obtain ⟨b1, b2, b3, b4, b5, b6⟩ := b
      have m0 : 0 ≤ r1 * r1 := Int.mul_nonneg (by omega) (by omega)
      have m1 : r1 * r1 ≤ 1152921504606846976 := by
        have := Int.mul_le_mul b6 b6 (by omega) (by omega)
        omega
      have hn' : 0 ≤ lo := by omega
      clear h0 b3 b4 b5 e1 e2 hn
      by_cases hu : r1 * r1 < hi
      · rw [if_pos hu]
        go_enter Tryz.func165, Tryz.ntmps165
        go_wp2_with fail
        refine (HV.out _).mono ?_
        rintro e w1 ⟨rfl, h1⟩
        obtain ⟨hc_w1, hf_w1, hz_w1⟩ := bcell h1; (try simp only [szA] at hz_w1); (try have := wz0 w w1); (try have := wz1 w w1); (try have := wz2 w w1); (try have := wz3 w w1); (try have := wz4 w w1)
        go_wp2_with fail
        refine (R1.out _).mono ?_
        rintro e _ ⟨rfl, rfl⟩
        go_wp2_with fail
        refine (R2.out _).mono ?_
        rintro e _ ⟨rfl, rfl⟩
        go_wp2_with fail
        (try simp only [Exit.inBlock, Exit.then]); apply bodyPost_ret; (focus (simp only [results, Tryz.results165]; go_simp; try rfl)); rfl
        exact ⟨rfl, ext_by⟩
      · rw [if_neg hu]
        go_enter Tryz.func165, Tryz.ntmps165
        go_wp2_with fail
        refine (HV.out _).mono ?_
        rintro e w1 ⟨rfl, h1⟩
        obtain ⟨hc_w1, hf_w1, hz_w1⟩ := bcell h1; (try simp only [szA] at hz_w1); (try have := wz0 w w1); (try have := wz1 w w1); (try have := wz2 w w1); (try have := wz3 w w1); (try have := wz4 w w1)
        go_wp2_with fail
        refine (R1.out _).mono ?_
        rintro e _ ⟨rfl, rfl⟩
        go_wp2_with fail
        refine (R2.out _).mono ?_
        rintro e _ ⟨rfl, rfl⟩
        go_wp2_with fail
        (try simp only [Exit.inBlock, Exit.then]); apply bodyPost_ret; (focus (simp only [results, Tryz.results165]; go_simp; try rfl)); rfl
        exact ⟨rfl, ext_by⟩
  · rw [if_neg h0]
    generalize spErr ⟨lo, hi⟩ = E at *
    go_enter Tryz.func165, Tryz.ntmps165
    go_wp2_with fail
    refine (HV.out _).mono ?_
    rintro e w1 ⟨rfl, h1⟩
    obtain ⟨hc_w1, hf_w1, hz_w1⟩ := bcell h1; (try simp only [szA] at hz_w1); (try have := wz0 w w1); (try have := wz1 w w1); (try have := wz2 w w1); (try have := wz3 w w1); (try have := wz4 w w1)
    go_wp2_with fail
    (try simp only [Exit.inBlock, Exit.then]); apply bodyPost_ret; (focus (simp only [results, Tryz.results165]; go_simp; try rfl)); rfl
    exact ⟨rfl, ext_by⟩
set_option maxRecDepth 4000 in
set_option maxHeartbeats 1000000 in
theorem spFar_c (A : Option Addr) (n c : Nat) (l : List Int) (w : World) (hl : Ints w A n l) :
    Calls Tryz.prog 230 #[.slice A n c] w fun e w' => e = .returned (.bool (l.all fun x => within x (-268435456) 268435456)) ∧ Ext w w' := by
  have hn := hl.le
  have hln := Lib.hid hl.len
  go_enter Tryz.func230, Tryz.ntmps230
  go_wp2_with fail
  go_loopw [7] (fun i wr => ∃ k : Nat, k ≤ n ∧ i = .int .i64 k ∧ Hid (((l.drop k).all fun x => within x (-268435456) 268435456) = l.all fun x => within x (-268435456) 268435456) ∧ Ext w wr) (fun i _ => n - (intOf i).toNat)
  case atStart => exact ⟨0, Nat.zero_le _, rfl, rfl, Ext.refl _⟩
  case round =>
    obtain ⟨k, hk, rfl, HI, hb⟩ := hrel
    obtain ⟨hcb, hfb, hzb⟩ := bcell hb
    by_cases hlt : k < n
    · obtain ⟨b, off, x, rfl, HD, hxm, hx⟩ := hl.one hlt
      have hx := hb.cell hx
      simp only [Nat.mul_one] at hx
      have hbl : b < wr.heap.size := World.block_lt_of_cell? wr _ hx
      have HX := Lib.hid fun W => sp_within_c x (-268435456) 268435456 W
      have hi := HI.out
      rw [HD.out, List.all_cons] at hi
      have Hi := Lib.hid hi
      clear hi
      cases hw : within x (-268435456) 268435456
      · rw [hw] at HX Hi
        go_wp2_with fail
        refine (HX.out _).mono ?_
        rintro e _ ⟨rfl, rfl⟩
        go_wp2_with fail
        go_ret
        exact ⟨ret_b (by rw [← Hi.out]; rfl), hb⟩
      · rw [hw] at HX Hi
        go_wp2_with fail
        refine (HX.out _).mono ?_
        rintro e _ ⟨rfl, rfl⟩
        go_wp2_with fail
        go_roundw
        case rel => exact ⟨k + 1, by omega, by go_num, by have := Hi.out; rwa [Bool.true_and] at this, hb⟩
        case measure => simp [intOf]; omega
    · have hkn : k = n := by omega
      subst hkn
      go_wp2_with fail
      go_ret
      refine ⟨ret_b ?_, hb⟩
      have := HI.out
      rw [hln.out, List.drop_length] at this
      rw [← this]; rfl
set_option maxRecDepth 20000 in
set_option maxHeartbeats 1000000 in
theorem spCheckArea_c (xl xh yl yh : Int) (w : World) :
    Calls Tryz.prog 162 #[.agg #[.int .i64 xl, .int .i64 xh, .int .i64 yl, .int .i64 yh]] w fun e w' => e = .returned (.int .i64 (areaErr ⟨⟨xl, xh⟩, ⟨yl, yh⟩⟩)) ∧ Ext w w' := by
  have HV := Lib.hid fun W => spValid_c xl xh yl yh W
  unfold areaErr
  dsimp only
  by_cases h0 : sp2Err ⟨xl, xh⟩ ⟨yl, yh⟩ = 0
  · rw [if_pos h0]
    rw [h0] at HV
    have hfe : (([xl, xh, yl, yh] : List Int).all fun x => within x (-268435456) 268435456) = far4 ⟨⟨xl, xh⟩, ⟨yl, yh⟩⟩ := by
      simp only [List.all_cons, List.all_nil, Bool.and_true, far4, Bool.and_assoc]
    generalize far4 _ = F at *
    have HF := Lib.hid hfe
    clear h0 hfe
    go_enter Tryz.func162, Tryz.ntmps162
    go_wp2_with fail
    refine (HV.out _).mono ?_
    rintro e w1 ⟨rfl, h1⟩
    have H4 := Lib.hid (spFar_c _ 4 4 [xl, xh, yl, yh] (w1.alloc (.cells #[.int .i64 xl, .int .i64 xh, .int .i64 yl, .int .i64 yh] 2)) (int_slice [xl, xh, yl, yh] (Blk.newAt rfl) (by simp)))
    rw [HF.out] at H4
    obtain ⟨hc_w1, hf_w1, hz_w1⟩ := bcell h1; (try simp only [szA] at hz_w1); (try have := wz0 w w1); (try have := wz1 w w1); (try have := wz2 w w1); (try have := wz3 w w1); (try have := wz4 w w1)
    go_wp2_with fail
    refine H4.out.mono ?_
    rintro e w2 ⟨rfl, h2⟩
    cases F
    all_goals go_wp2_with fail
    all_goals go_ret
    all_goals exact ⟨ret_i (by simp), ext_by⟩
  · rw [if_neg h0]
    generalize sp2Err _ _ = E at *
    go_enter Tryz.func162, Tryz.ntmps162
    go_wp2_with fail
    refine (HV.out _).mono ?_
    rintro e w1 ⟨rfl, h1⟩
    obtain ⟨hc_w1, hf_w1, hz_w1⟩ := bcell h1; (try simp only [szA] at hz_w1); (try have := wz0 w w1); (try have := wz1 w w1); (try have := wz2 w w1); (try have := wz3 w w1); (try have := wz4 w w1)
    go_wp2_with fail
    go_ret
    exact ⟨rfl, ext_by⟩
end Go.Proofs.YtiladlangkjoiaaGreat

namespace Go.Proofs.YtiladlangkjoiaaGreat
open Go.RowKit

set_option maxHeartbeats 400000 in
theorem fWithin_c (a b c : Int) (w : World) :
    Calls Tryz.prog 187 #[.int .i64 a, .int .i64 b, .int .i64 c] w fun e w' => e = .returned (.bool (within a b c)) ∧ Ext w w' := by
  go_enter Tryz.func187, Tryz.ntmps187
  go_wp2
  all_goals go_ret
  all_goals exact ⟨ret_b (by simp [within, *] <;> omega), Ext.refl _⟩
set_option maxHeartbeats 400000 in
theorem fBounded_c (lo hi a b : Int) (w : World) :
    Calls Tryz.prog 186 #[.agg #[.int .i64 lo, .int .i64 hi], .int .i64 a, .int .i64 b] w fun e w' => e = .returned (.int .i64 (boundErr ⟨lo, hi⟩ a b)) ∧ Ext w w' := by
  unfold boundErr
  dsimp only
  by_cases h1 : hi < lo
  · rw [if_pos h1]
    go_enter Tryz.func186, Tryz.ntmps186
    go_wp2_with fail
    go_ret
    exact ⟨rfl, ext_by⟩
  · rw [if_neg h1]
    by_cases h2 : lo < a
    · rw [if_pos (.inl h2)]
      go_enter Tryz.func186, Tryz.ntmps186
      go_wp2_with fail
      go_ret
      exact ⟨rfl, ext_by⟩
    · by_cases h3 : b < hi
      · rw [if_pos (.inr h3)]
        go_enter Tryz.func186, Tryz.ntmps186
        go_wp2_with fail
        go_ret
        exact ⟨rfl, ext_by⟩
      · rw [if_neg (by omega)]
        go_enter Tryz.func186, Tryz.ntmps186
        go_wp2_with fail
        go_ret
        exact ⟨rfl, ext_by⟩
set_option maxHeartbeats 1000000 in
theorem fCheckDrift_c (ll lh hl hh g : Int) (w : World) :
    Calls Tryz.prog 101 #[.agg #[.int .i64 ll, .int .i64 lh, .int .i64 hl, .int .i64 hh, .int .i64 g]] w fun e w' => e = .returned (.int .i64 (driftErr ⟨⟨ll, lh⟩, ⟨hl, hh⟩, g⟩)) ∧ Ext w w' := by
  have H1 := Lib.hid fun W => fBounded_c ll lh 0 1000 W
  have H2 := Lib.hid fun W => fBounded_c hl hh (-1000) 1000 W
  have H3 := Lib.hid fun W => fWithin_c g 0 1000 W
  unfold driftErr
  dsimp only
  generalize boundErr ⟨ll, lh⟩ 0 1000 = E1 at *
  generalize boundErr ⟨hl, hh⟩ (-1000) 1000 = E2 at *
  generalize within g 0 1000 = B at *
  by_cases h1 : E1 = 0
  · subst h1
    rw [if_pos rfl]
    by_cases h2 : E2 = 0
    · subst h2
      rw [if_pos rfl]
      cases B
      all_goals
        go_enter Tryz.func101, Tryz.ntmps101
        go_wp2_with fail
        refine (H1.out _).mono ?_
        rintro e w1 ⟨rfl, h1⟩
        obtain ⟨hc_w1, hf_w1, hz_w1⟩ := bcell h1; (try simp only [szA] at hz_w1); (try have := wz0 w w1); (try have := wz1 w w1); (try have := wz2 w w1); (try have := wz3 w w1); (try have := wz4 w w1)
        go_wp2_with fail
        refine (H2.out _).mono ?_
        rintro e w2 ⟨rfl, h2⟩
        obtain ⟨hc_w2, hf_w2, hz_w2⟩ := bcell h2; (try simp only [szA] at hz_w2); (try have := wz0 w w2); (try have := wz1 w w2); (try have := wz2 w w2); (try have := wz3 w w2); (try have := wz4 w w2)
        go_wp2_with fail
        refine (H3.out _).mono ?_
        rintro e w3 ⟨rfl, h3⟩
        obtain ⟨hc_w3, hf_w3, hz_w3⟩ := bcell h3; (try simp only [szA] at hz_w3); (try have := wz0 w w3); (try have := wz1 w w3); (try have := wz2 w w3); (try have := wz3 w w3); (try have := wz4 w w3)
        go_wp2_with fail
        go_ret
        exact ⟨rfl, ext_by⟩
    · rw [if_neg h2]
      go_enter Tryz.func101, Tryz.ntmps101
      go_wp2_with fail
      refine (H1.out _).mono ?_
      rintro e w1 ⟨rfl, h1⟩
      obtain ⟨hc_w1, hf_w1, hz_w1⟩ := bcell h1; (try simp only [szA] at hz_w1); (try have := wz0 w w1); (try have := wz1 w w1); (try have := wz2 w w1); (try have := wz3 w w1); (try have := wz4 w w1)
      go_wp2_with fail
      refine (H2.out _).mono ?_
      rintro e w2 ⟨rfl, h2⟩
      obtain ⟨hc_w2, hf_w2, hz_w2⟩ := bcell h2; (try simp only [szA] at hz_w2); (try have := wz0 w w2); (try have := wz1 w w2); (try have := wz2 w w2); (try have := wz3 w w2); (try have := wz4 w w2)
      go_wp2_with fail
      go_ret
      exact ⟨rfl, ext_by⟩
  · rw [if_neg h1]
    go_enter Tryz.func101, Tryz.ntmps101
    go_wp2_with fail
    refine (H1.out _).mono ?_
    rintro e w1 ⟨rfl, h1⟩
    obtain ⟨hc_w1, hf_w1, hz_w1⟩ := bcell h1; (try simp only [szA] at hz_w1); (try have := wz0 w w1); (try have := wz1 w w1); (try have := wz2 w w1); (try have := wz3 w w1); (try have := wz4 w w1)
    go_wp2_with fail
    go_ret
    exact ⟨rfl, ext_by⟩
set_option maxRecDepth 4000 in
set_option maxHeartbeats 2000000 in
theorem fAsked_c (A : Option Addr) (n c : Nat) (home : Int) (l : List Body) (ll lh hl hh g tick xl xh yl yh : Int) (w : World) (hw : Bodies w A n l) :
    Calls Tryz.prog 309 #[.agg #[.slice A n c, .int .i64 home], .agg #[.int .i64 ll, .int .i64 lh, .int .i64 hl, .int .i64 hh, .int .i64 g], .int .i64 tick, .agg #[.int .i64 xl, .int .i64 xh, .int .i64 yl, .int .i64 yh]] w fun e w' =>
      e = .returned (.int .i64 (fAskErr l home ⟨⟨ll, lh⟩, ⟨hl, hh⟩, g⟩ tick ⟨⟨xl, xh⟩, ⟨yl, yh⟩⟩)) ∧ Ext w w' := by
  have H1 := Lib.hid fun W (hW : Ext w W) => CheckWorld_c A n c home l W (Bodies.ext hW hw)
  have H2 := Lib.hid fun W => fCheckDrift_c ll lh hl hh g W
  have H3 := Lib.hid fun W => fWithin_c tick 0 1073741824 W
  have H4 := Lib.hid fun W => spCheckArea_c xl xh yl yh W
  unfold fAskErr inPlace
  dsimp only
  clear hw
  generalize wldErr ⟨l, home⟩ = E1 at *
  generalize driftErr ⟨⟨ll, lh⟩, ⟨hl, hh⟩, g⟩ = E2 at *
  generalize within tick 0 1073741824 = B at *
  generalize areaErr ⟨⟨xl, xh⟩, ⟨yl, yh⟩⟩ = E4 at *
  by_cases h1 : E1 = 0
  · subst h1
    rw [if_pos rfl]
    by_cases h2 : E2 = 0
    · subst h2
      rw [if_pos rfl]
      cases B
      · go_enter Tryz.func309, Tryz.ntmps309
        go_wp2_with fail
        refine (H1.out _ ext_by).mono ?_
        rintro e w1 ⟨rfl, h1⟩
        obtain ⟨hc_w1, hf_w1, hz_w1⟩ := bcell h1; (try simp only [szA] at hz_w1); (try have := wz0 w w1); (try have := wz1 w w1); (try have := wz2 w w1); (try have := wz3 w w1); (try have := wz4 w w1)
        go_wp2_with fail
        refine (H2.out _).mono ?_
        rintro e w2 ⟨rfl, h2⟩
        obtain ⟨hc_w2, hf_w2, hz_w2⟩ := bcell h2; (try simp only [szA] at hz_w2); (try have := wz0 w w2); (try have := wz1 w w2); (try have := wz2 w w2); (try have := wz3 w w2); (try have := wz4 w w2)
        go_wp2_with fail
        refine (H3.out _).mono ?_
        rintro e w3 ⟨rfl, h3⟩
        obtain ⟨hc_w3, hf_w3, hz_w3⟩ := bcell h3; (try simp only [szA] at hz_w3); (try have := wz0 w w3); (try have := wz1 w w3); (try have := wz2 w w3); (try have := wz3 w w3); (try have := wz4 w w3)
        go_wp2_with fail
        go_ret
        exact ⟨rfl, ext_by⟩
      · rw [if_pos rfl]
        by_cases h4 : E4 = 0
        · subst h4
          rw [if_pos rfl]
          obtain ⟨R, hR⟩ : ∃ R : Int, (if (decide (-33554432 ≤ xl) && decide (xh ≤ 33554432) && (decide (-33554432 ≤ yl) && decide (yh ≤ 33554432))) = true then (0 : Int) else 2) = R := ⟨_, rfl⟩
          rw [hR]
          have HR := Lib.hid hR
          clear hR
          go_enter Tryz.func309, Tryz.ntmps309
          go_wp2_with fail
          refine (H1.out _ ext_by).mono ?_
          rintro e w1 ⟨rfl, h1⟩
          obtain ⟨hc_w1, hf_w1, hz_w1⟩ := bcell h1; (try simp only [szA] at hz_w1); (try have := wz0 w w1); (try have := wz1 w w1); (try have := wz2 w w1); (try have := wz3 w w1); (try have := wz4 w w1)
          go_wp2_with fail
          refine (H2.out _).mono ?_
          rintro e w2 ⟨rfl, h2⟩
          obtain ⟨hc_w2, hf_w2, hz_w2⟩ := bcell h2; (try simp only [szA] at hz_w2); (try have := wz0 w w2); (try have := wz1 w w2); (try have := wz2 w w2); (try have := wz3 w w2); (try have := wz4 w w2)
          go_wp2_with fail
          refine (H3.out _).mono ?_
          rintro e w3 ⟨rfl, h3⟩
          obtain ⟨hc_w3, hf_w3, hz_w3⟩ := bcell h3; (try simp only [szA] at hz_w3); (try have := wz0 w w3); (try have := wz1 w w3); (try have := wz2 w w3); (try have := wz3 w w3); (try have := wz4 w w3)
          go_wp2_with fail
          refine (H4.out _).mono ?_
          rintro e w4 ⟨rfl, h4⟩
          obtain ⟨hc_w4, hf_w4, hz_w4⟩ := bcell h4; (try simp only [szA] at hz_w4); (try have := wz0 w w4); (try have := wz1 w w4); (try have := wz2 w w4); (try have := wz3 w w4); (try have := wz4 w w4)
          go_wp2_with fail
          have e4 : Ext w w4 := ext_by
          go_loopw [37] (fun i wr => ∃ k : Nat, k ≤ 2 ∧ i = .int .i64 k ∧ Hid ((0 < k → -33554432 ≤ xl ∧ xh ≤ 33554432) ∧ (1 < k → -33554432 ≤ yl ∧ yh ≤ 33554432)) ∧ Ext w wr) (fun i _ => 2 - (intOf i).toNat)
          case atStart => exact ⟨0, Nat.zero_le _, rfl, Lib.hid ⟨by omega, by omega⟩, e4⟩
          case round =>
            obtain ⟨k, hk, rfl, HI, hb⟩ := hrel
            by_cases hk2 : k < 2
            · obtain ⟨X, Y, hX⟩ : ∃ X Y, (k = 0 ∧ X = xl ∧ Y = xh) ∨ (k = 1 ∧ X = yl ∧ Y = yh) := by
                by_cases h : k = 0
                · exact ⟨xl, xh, .inl ⟨h, rfl, rfl⟩⟩
                · exact ⟨yl, yh, .inr ⟨by omega, rfl, rfl⟩⟩
              have ixk : ∀ W, (Instr.index 326 (.agg #[.int .i64 xl, .int .i64 xh, .int .i64 yl, .int .i64 yh]) (.int .i64 (k : Int))).run Tryz.prog W = .ok (.agg #[.int .i64 X, .int .i64 Y]) W := by
                rcases hX with ⟨rfl, rfl, rfl⟩ | ⟨rfl, rfl, rfl⟩ <;> intro W <;> kernel_rfl
              have HX := Lib.hid hX
              clear hX
              have hkb : (k : Int) < 2 := by omega
              by_cases c1 : X < -33554432
              · go_wp2_with fail
                go_ret
                refine ⟨ret_i ?_, ext_by⟩
                rw [← HR.out, if_neg]
                simp only [Bool.and_eq_true, decide_eq_true_eq]
                have := HX.out
                omega
              · by_cases c2 : 33554432 < Y
                · go_wp2_with fail
                  go_ret
                  refine ⟨ret_i ?_, ext_by⟩
                  rw [← HR.out, if_neg]
                  simp only [Bool.and_eq_true, decide_eq_true_eq]
                  have := HX.out
                  omega
                · go_wp2_with fail
                  go_roundw
                  case rel => exact ⟨k + 1, by omega, by go_num, Lib.hid (by have := HX.out; have := HI.out; omega), ext_by⟩
                  case measure => simp [intOf]; omega
            · obtain rfl : k = 2 := by omega
              go_wp2_with fail
              go_ret
              refine ⟨ret_i ?_, ext_by⟩
              rw [← HR.out, if_pos]
              simp only [Bool.and_eq_true, decide_eq_true_eq]
              have := HI.out
              omega
        · rw [if_neg h4]
          go_enter Tryz.func309, Tryz.ntmps309
          go_wp2_with fail
          refine (H1.out _ ext_by).mono ?_
          rintro e w1 ⟨rfl, h1⟩
          obtain ⟨hc_w1, hf_w1, hz_w1⟩ := bcell h1; (try simp only [szA] at hz_w1); (try have := wz0 w w1); (try have := wz1 w w1); (try have := wz2 w w1); (try have := wz3 w w1); (try have := wz4 w w1)
          go_wp2_with fail
          refine (H2.out _).mono ?_
          rintro e w2 ⟨rfl, h2⟩
          obtain ⟨hc_w2, hf_w2, hz_w2⟩ := bcell h2; (try simp only [szA] at hz_w2); (try have := wz0 w w2); (try have := wz1 w w2); (try have := wz2 w w2); (try have := wz3 w w2); (try have := wz4 w w2)
          go_wp2_with fail
          refine (H3.out _).mono ?_
          rintro e w3 ⟨rfl, h3⟩
          obtain ⟨hc_w3, hf_w3, hz_w3⟩ := bcell h3; (try simp only [szA] at hz_w3); (try have := wz0 w w3); (try have := wz1 w w3); (try have := wz2 w w3); (try have := wz3 w w3); (try have := wz4 w w3)
          go_wp2_with fail
          refine (H4.out _).mono ?_
          rintro e w4 ⟨rfl, h4⟩
          obtain ⟨hc_w4, hf_w4, hz_w4⟩ := bcell h4; (try simp only [szA] at hz_w4); (try have := wz0 w w4); (try have := wz1 w w4); (try have := wz2 w w4); (try have := wz3 w w4); (try have := wz4 w w4)
          go_wp2_with fail
          go_ret
          exact ⟨rfl, ext_by⟩
    · rw [if_neg h2]
      go_enter Tryz.func309, Tryz.ntmps309
      go_wp2_with fail
      refine (H1.out _ ext_by).mono ?_
      rintro e w1 ⟨rfl, h1⟩
      obtain ⟨hc_w1, hf_w1, hz_w1⟩ := bcell h1; (try simp only [szA] at hz_w1); (try have := wz0 w w1); (try have := wz1 w w1); (try have := wz2 w w1); (try have := wz3 w w1); (try have := wz4 w w1)
      go_wp2_with fail
      refine (H2.out _).mono ?_
      rintro e w2 ⟨rfl, h2⟩
      obtain ⟨hc_w2, hf_w2, hz_w2⟩ := bcell h2; (try simp only [szA] at hz_w2); (try have := wz0 w w2); (try have := wz1 w w2); (try have := wz2 w w2); (try have := wz3 w w2); (try have := wz4 w w2)
      go_wp2_with fail
      go_ret
      exact ⟨rfl, ext_by⟩
  · rw [if_neg h1]
    go_enter Tryz.func309, Tryz.ntmps309
    go_wp2_with fail
    refine (H1.out _ ext_by).mono ?_
    rintro e w1 ⟨rfl, h1⟩
    obtain ⟨hc_w1, hf_w1, hz_w1⟩ := bcell h1; (try simp only [szA] at hz_w1); (try have := wz0 w w1); (try have := wz1 w w1); (try have := wz2 w w1); (try have := wz3 w w1); (try have := wz4 w w1)
    go_wp2_with fail
    go_ret
    exact ⟨rfl, ext_by⟩
end Go.Proofs.YtiladlangkjoiaaGreat

namespace Go.Proofs.YtiladlangkjoiaaGreat
open Go.RowKit

set_option maxRecDepth 4000 in
set_option maxHeartbeats 1000000 in
theorem fAdd_c (A : Option Addr) (n c : Nat) (l : List Sp) (w : World) (hl : Sps w A n l) (hs : ∀ s ∈ l, Sm 72057594037927936 s) (h8 : l.length ≤ 8) :
    Calls Tryz.prog 340 #[.slice A n c] w fun e w' => e = .returned (.agg #[.int .i64 (l.foldl sumS ⟨0, 0⟩).lo, .int .i64 (l.foldl sumS ⟨0, 0⟩).hi]) ∧ Ext w w' := by
  have hn := hl.le
  have hln := Lib.hid hl.len
  obtain ⟨T, hT⟩ : ∃ T, l.foldl sumS ⟨0, 0⟩ = T := ⟨_, rfl⟩
  rw [hT]
  have HT := Lib.hid hT
  have HS := Lib.hid hs
  have H8 := Lib.hid h8
  clear hT hs h8
  go_enter Tryz.func340, Tryz.ntmps340
  go_wp2_with fail
  go_loopw [8] (fun i wr => ∃ (k : Nat) (o : Sp), k ≤ n ∧ i = .int .i64 k ∧ Hid ((l.drop k).foldl sumS o = T) ∧ Hid (Sm (k * 72057594037927936) o) ∧ Hid (Blk wr w.heap.size 26 #[.int .i64 0, .int .i64 0]) ∧ Hid (Blk wr (w.heap.size + 1) 26 #[.int .i64 o.lo, .int .i64 o.hi]) ∧ Ext w wr) (fun i _ => n - (intOf i).toNat)
  case atStart => exact ⟨0, ⟨0, 0⟩, Nat.zero_le _, rfl, HT.out, Lib.hid (by simp [Sm]), Lib.hid ((Blk.newAt rfl).alloc _), Lib.hid (Blk.newAt (by simp)), ext_by⟩
  case round =>
    obtain ⟨k, o, hk, rfl, HI, HO, HB0, HB1, hb⟩ := hrel
    have hc0 := HB0.out.cell
    have hc1 := HB1.out.cell
    have hf0 := HB0.out.frozen
    have hf1 := HB1.out.frozen
    have hl0 := HB0.out.lt
    have hl1 := HB1.out.lt
    by_cases hlt : k < n
    · obtain ⟨b, off, x, rfl, HD, hxm, hx⟩ := hl.one hlt
      obtain ⟨hx0, hx1⟩ := spAt.ext hb hx
      have hbl : b < wr.heap.size := World.block_lt_of_cell? wr _ hx0
      obtain ⟨ol, oh⟩ := o
      obtain ⟨xl, xh⟩ := x
      have hadd := addM_small HO.out (HS.out _ hxm) (by omega) (by omega) (by have := hln.out; have := H8.out; omega)
      have HA := Lib.hid fun W => Add_c ol oh xl xh W
      rw [hadd] at HA
      have hi := HI.out
      rw [HD.out, List.foldl_cons] at hi
      have hsm := HO.out.add (HS.out _ hxm)
      generalize sumS ⟨ol, oh⟩ ⟨xl, xh⟩ = N at *
      obtain ⟨nl, nh⟩ := N
      have Hi := Lib.hid hi
      have HSm := Lib.hid hsm
      clear hi hsm hadd hxm hx
      go_wp2_with fail
      refine (HA.out _).mono ?_
      rintro e w1 ⟨rfl, h1⟩
      have HB0' := Lib.hid ((HB0.out.alloc (.cells #[.int .i64 xl, .int .i64 xh] 26)).ext h1)
      have HB1' := Lib.hid ((HB1.out.alloc (.cells #[.int .i64 xl, .int .i64 xh] 26)).ext h1)
      have hE1 : Ext w w1 := ext_by
      clear hc0 hc1 hf0 hf1 h1 HB0 HB1
      have hc1 := HB1'.out.cell
      have hf1 := HB1'.out.frozen
      have hl1 := HB1'.out.lt
      go_wp2_with fail
      go_roundw
      case rel => exact ⟨k + 1, ⟨nl, nh⟩, by omega, by go_num, Hi, Lib.hid (HSm.out.mono (by push_cast; omega)), Lib.hid ((HB0'.out.far (by dsimp only; omega) _).far (by dsimp only; omega) _), Lib.hid ((HB1'.out.set_ 0 _).set_ 1 _), (hE1.set (by dsimp only; omega) _).set (by dsimp only; omega) _⟩
      case measure => simp [intOf]; omega
    · have hkn : k = n := by omega
      have hi := HI.out
      rw [hkn, hln.out, List.drop_length] at hi
      have hoT : o = T := hi
      subst hoT
      obtain ⟨ol, oh⟩ := o
      clear hi
      go_wp2_with fail
      (try simp only [Exit.inBlock, Exit.then]); apply bodyPost_ret; (focus (simp only [results, Tryz.results340]; go_simp; try rfl)); rfl
      exact ⟨rfl, (hb.set (by dsimp only; omega) _).set (by dsimp only; omega) _⟩
set_option maxHeartbeats 1000000 in
theorem fSub_c (al ah bl bh : Int) (w : World) :
    Calls Tryz.prog 361 #[.agg #[.int .i64 al, .int .i64 ah], .agg #[.int .i64 bl, .int .i64 bh]] w fun e w' => e = .returned (.agg #[.int .i64 (subS ⟨al, ah⟩ ⟨bl, bh⟩).lo, .int .i64 (subS ⟨al, ah⟩ ⟨bl, bh⟩).hi]) ∧ Ext w w' := by
  have H := Lib.hid fun W => Sub_c al ah bl bh W
  unfold subS
  generalize subM _ _ = R at *
  obtain ⟨⟨rl, rh⟩, re⟩ := R
  go_enter Tryz.func361, Tryz.ntmps361
  go_wp2_with fail
  refine (H.out _).mono ?_
  rintro e w1 ⟨rfl, h1⟩
  obtain ⟨hc_w1, hf_w1, hz_w1⟩ := bcell h1; (try simp only [szA] at hz_w1); (try have := wz0 w w1); (try have := wz1 w w1); (try have := wz2 w w1); (try have := wz3 w w1); (try have := wz4 w w1)
  go_wp2_with fail
  (try simp only [Exit.inBlock, Exit.then]); apply bodyPost_ret; (focus (simp only [results, Tryz.results361]; go_simp; try rfl)); rfl
  exact ⟨rfl, ext_by⟩
set_option maxHeartbeats 1000000 in
theorem fMul_c (al ah bl bh : Int) (w : World) :
    Calls Tryz.prog 356 #[.agg #[.int .i64 al, .int .i64 ah], .agg #[.int .i64 bl, .int .i64 bh]] w fun e w' => e = .returned (.agg #[.int .i64 (mulS ⟨al, ah⟩ ⟨bl, bh⟩).lo, .int .i64 (mulS ⟨al, ah⟩ ⟨bl, bh⟩).hi]) ∧ Ext w w' := by
  have H := Lib.hid fun W => spMul_c al ah bl bh W
  unfold mulS
  generalize mulM _ _ = R at *
  obtain ⟨⟨rl, rh⟩, re⟩ := R
  go_enter Tryz.func356, Tryz.ntmps356
  go_wp2_with fail
  refine (H.out _).mono ?_
  rintro e w1 ⟨rfl, h1⟩
  obtain ⟨hc_w1, hf_w1, hz_w1⟩ := bcell h1; (try simp only [szA] at hz_w1); (try have := wz0 w w1); (try have := wz1 w w1); (try have := wz2 w w1); (try have := wz3 w w1); (try have := wz4 w w1)
  go_wp2_with fail
  (try simp only [Exit.inBlock, Exit.then]); apply bodyPost_ret; (focus (simp only [results, Tryz.results356]; go_simp; try rfl)); rfl
  exact ⟨rfl, ext_by⟩
set_option maxHeartbeats 1000000 in
theorem fQuot_c (al ah bl bh : Int) (w : World) :
    Calls Tryz.prog 355 #[.agg #[.int .i64 al, .int .i64 ah], .agg #[.int .i64 bl, .int .i64 bh]] w fun e w' => e = .returned (.agg #[.int .i64 (quotS ⟨al, ah⟩ ⟨bl, bh⟩).lo, .int .i64 (quotS ⟨al, ah⟩ ⟨bl, bh⟩).hi]) ∧ Ext w w' := by
  have H := Lib.hid fun W => spQuot_c al ah bl bh W
  unfold quotS
  generalize quotM _ _ = R at *
  obtain ⟨⟨rl, rh⟩, re⟩ := R
  go_enter Tryz.func355, Tryz.ntmps355
  go_wp2_with fail
  refine (H.out _).mono ?_
  rintro e w1 ⟨rfl, h1⟩
  obtain ⟨hc_w1, hf_w1, hz_w1⟩ := bcell h1; (try simp only [szA] at hz_w1); (try have := wz0 w w1); (try have := wz1 w w1); (try have := wz2 w w1); (try have := wz3 w w1); (try have := wz4 w w1)
  go_wp2_with fail
  (try simp only [Exit.inBlock, Exit.then]); apply bodyPost_ret; (focus (simp only [results, Tryz.results355]; go_simp; try rfl)); rfl
  exact ⟨rfl, ext_by⟩
set_option maxHeartbeats 1000000 in
theorem fSquare_c (lo hi : Int) (w : World) :
    Calls Tryz.prog 359 #[.agg #[.int .i64 lo, .int .i64 hi]] w fun e w' => e = .returned (.agg #[.int .i64 (squareS ⟨lo, hi⟩).lo, .int .i64 (squareS ⟨lo, hi⟩).hi]) ∧ Ext w w' := by
  have H := Lib.hid fun W => spSquare_c lo hi W
  unfold squareS
  generalize squareM _ = R at *
  obtain ⟨⟨rl, rh⟩, re⟩ := R
  go_enter Tryz.func359, Tryz.ntmps359
  go_wp2_with fail
  refine (H.out _).mono ?_
  rintro e w1 ⟨rfl, h1⟩
  obtain ⟨hc_w1, hf_w1, hz_w1⟩ := bcell h1; (try simp only [szA] at hz_w1); (try have := wz0 w w1); (try have := wz1 w w1); (try have := wz2 w w1); (try have := wz3 w w1); (try have := wz4 w w1)
  go_wp2_with fail
  (try simp only [Exit.inBlock, Exit.then]); apply bodyPost_ret; (focus (simp only [results, Tryz.results359]; go_simp; try rfl)); rfl
  exact ⟨rfl, ext_by⟩
set_option maxHeartbeats 400000 in
theorem fOne_c (n : Int) (w : World) :
    Calls Tryz.prog 314 #[.int .i64 n] w fun e w' => e = .returned (.agg #[.int .i64 n, .int .i64 n]) ∧ Ext w w' := by
  go_enter Tryz.func314, Tryz.ntmps314
  go_wp2_with fail
  (try simp only [Exit.inBlock, Exit.then]); apply bodyPost_ret; (focus (simp only [results, Tryz.results314]; go_simp; try rfl)); rfl
  exact ⟨rfl, ext_by⟩
set_option maxHeartbeats 1000000 in
theorem fMinus_c (lo hi : Int) (w : World) (h : -1152921504606846976 ≤ lo ∧ lo ≤ 1152921504606846976 ∧ -1152921504606846976 ≤ hi ∧ hi ≤ 1152921504606846976) :
    Calls Tryz.prog 341 #[.agg #[.int .i64 lo, .int .i64 hi]] w fun e w' => e = .returned (.agg #[.int .i64 (-hi), .int .i64 (-lo)]) ∧ Ext w w' := by
  obtain ⟨h1, h2, h3, h4⟩ := h
  go_enter Tryz.func341, Tryz.ntmps341
  go_wp2_with fail
  (try simp only [Exit.inBlock, Exit.then]); apply bodyPost_ret; (focus (simp only [results, Tryz.results341]; go_simp; try rfl)); rfl
  exact ⟨rfl, ext_by⟩
set_option maxHeartbeats 1000000 in
theorem fClamp_c (lo hi : Int) (w : World) :
    Calls Tryz.prog 363 #[.agg #[.int .i64 lo, .int .i64 hi]] w fun e w' => e = .returned (.agg #[.int .i64 (clampI lo), .int .i64 (clampI hi)]) ∧ Ext w w' := by
  unfold clampI
  go_enter Tryz.func363, Tryz.ntmps363
  go_wp2_with fail
  (try simp only [Exit.inBlock, Exit.then]); apply bodyPost_ret; (focus (simp only [results, Tryz.results363]; go_simp; try rfl)); rfl
  exact ⟨rfl, ext_by⟩
set_option maxHeartbeats 1000000 in
theorem fEdge_c (mu r : Int) (A : Option Addr) (n c : Nat) (px py : Int) (w : World) (hr : 0 ≤ r ∧ r ≤ 1048576) :
    Calls Tryz.prog 360 #[.agg #[.int .i64 mu, .int .i64 r, .slice A n c, .int .i64 px, .int .i64 py]] w fun e w' => e = .returned (.int .i64 (edgeM r)) ∧ Ext w w' := by
  have m1 : r * r ≤ 1099511627776 := Int.mul_le_mul hr.2 hr.2 hr.1 (by omega)
  have m0 : 0 ≤ r * r := Int.mul_nonneg hr.1 hr.1
  unfold edgeM
  obtain ⟨h1, h2⟩ := hr
  go_enter Tryz.func360, Tryz.ntmps360
  go_wp2_with fail
  go_ret
  exact ⟨rfl, ext_by⟩
end Go.Proofs.YtiladlangkjoiaaGreat
