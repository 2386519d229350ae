/- The span of an operation: the program. No condition. -/
import Derived.Test.YtfniicgoeljmdaaPairs
import Derived.Test.YtfniicgoeljmdaaExcludes3
namespace Go.Proofs.Ytfniicgoeljmdaa
open Go.RowKit Go.Shelf
attribute [local go_sem] Oper.semAt_some

def accQ (o : Sp) (l : List Quo) : Sp := l.foldl joinQ o
theorem accQ_snoc (o : Sp) (l : List Quo) (q : Quo) : accQ o (l ++ [q]) = ⟨min (accQ o l).lo q.lo, max (accQ o l).hi q.hi⟩ := by unfold accQ; rw [List.foldl_append]; rfl
theorem joinAll_all : ∀ (l : List Quo) (o : Sp), (∀ q ∈ l, q.e = 0) → joinAll l o = ⟨accQ o l, 0⟩
  | [], _, _ => rfl
  | q :: l, o, h => by
    rw [joinAll, if_pos (h q (by simp)), joinAll_all l _ fun x hx => h x (by simp [hx])]
    rfl
theorem joinAll_bad : ∀ (l : List Quo) (o : Sp) (q : Quo) (r : List Quo), (∀ q ∈ l, q.e = 0) → q.e ≠ 0 → joinAll (l ++ q :: r) o = noSp q.e
  | [], o, q, r, _, h => by rw [List.nil_append, joinAll, if_neg h]
  | x :: l, o, q, r, h, hq => by
    rw [List.cons_append, joinAll, if_pos (h x (by simp)), joinAll_bad l _ q r (fun y hy => h y (by simp [hy])) hq]
def lastE {β : Type} (f : β → Quo) (s : List β) : Int := match s.getLast? with | some x => (f x).e | none => 0
theorem lastE_snoc {β : Type} (f : β → Quo) (s : List β) (x : β) : lastE f (s ++ [x]) = (f x).e := by simp [lastE]
theorem joinAll_stop {β : Type} {f : β → Quo} {L pre s : List β} {x : β} {o : Sp} (hs : s = pre ++ [x]) (hp : s <+: L) (h : ∀ v ∈ pre, (f v).e = 0) (hx : (f x).e ≠ 0) : joinAll (L.map f) o = noSp (lastE f s) := by
  subst hs
  obtain ⟨r, rfl⟩ := hp
  rw [lastE_snoc, List.append_assoc, List.map_append, List.map_append]
  exact joinAll_bad _ _ _ _ (by simpa using h) hx
set_option maxRecDepth 100000 in
set_option maxHeartbeats 2000000 in
theorem spCombine_ok (al ah bl bh : Int) (fid : Nat) (cap : Array Value) (f : Int → Int → Quo) (w : World) (h0 : sp2Err ⟨al, ah⟩ ⟨bl, bh⟩ = 0)
    (hcall : ∀ (xs : Array Value) (W : World), (callFunc fid xs).run Try.prog W = .ok (.enter fid xs) W)
    (hf : ∀ p ∈ pairsV al ah bl bh, ∀ W, Ext w W → Calls Try.prog fid (#[.int .i64 p.1, .int .i64 p.2] ++ cap) W fun e w' => e = .returned (quoV (f p.1 p.2)) ∧ Ext W w') :
    Calls Try.prog 84 #[.agg #[.int .i64 al, .int .i64 ah], .agg #[.int .i64 bl, .int .i64 bh], .func (.func fid) #[] cap] w fun e w' => e = .returned (spRV (combM f ⟨al, ah⟩ ⟨bl, bh⟩)) ∧ Ext w w' := by
  have HV := Lib.hid fun W => spValid_c al ah bl bh W
  rw [h0] at HV
  have HPR := Lib.hid fun W => spPairs_c al ah bl bh W
  have Hf := Lib.hid hf
  generalize hR : combM f ⟨al, ah⟩ ⟨bl, bh⟩ = R
  unfold combM at hR
  rw [if_pos h0] at hR
  have HR : Hid (joinAll ((pairsV al ah bl bh).map fun p => f p.1 p.2) ⟨1152921504606846976, -1152921504606846976⟩ = R) := hR
  clear hf hR h0
  refine (callsIn_wide (n := 6)).1 (callsIn_of_wp_marks Try.func84 rfl trivial ?_)
  simp only [Try.ntmps84, List.size_toArray, List.length_cons, List.length_nil, Nat.reduceAdd, Nat.reduceSub, Array.replicate_succ, Array.replicate_zero, List.push_toArray, List.append_toArray, List.nil_append, List.cons_append]
  refine wpIn_wide.2 ?_
  go_wp2_with fail
  refine (HV.out _).mono ?_
  rintro e w1 ⟨rfl, h1⟩
  obtain ⟨hc_w1, hf_w1, hz_w1⟩ := bcell h1; (try simp only [szA] at hz_w1); (try have := wz0 w w1); (try have := wz1 w w1); (try have := wz2 w w1); (try have := wz3 w w1); (try have := wz4 w w1)
  go_wp2_with fail
  refine (HPR.out _).mono ?_
  rintro e w2 ⟨b, rfl, h2, hb0, hB⟩
  obtain ⟨hc_w2, hf_w2, hz_w2⟩ := bcell h2; (try simp only [szA] at hz_w2); (try have := wz0 w w2); (try have := wz1 w w2); (try have := wz2 w w2); (try have := wz3 w w2); (try have := wz4 w w2)
  go_wp2_with fail
  have hB5 : Blk w2 (w.heap.size + 1 + 1) 151 #[.func (.func fid) #[] cap] := Blk.ext (((Blk.ext (((Blk.newAt (by simp)).alloc _).alloc _)) h1).alloc _) h2
  have hB6 : Blk w2 (w.heap.size + 1 + 1 + 1) 32 #[.int .i64 0, .int .i64 0] := Blk.ext (((Blk.ext ((Blk.newAt (by simp)).alloc _)) h1).alloc _) h2
  have hB7 : Blk w2 (w.heap.size + 1 + 1 + 1 + 1) 41 #[.int .i64 0] := Blk.ext (((Blk.ext (Blk.newAt (by simp))) h1).alloc _) h2
  have hB9 : Blk w2 w1.heap.size 32 #[.int .i64 1152921504606846976, .int .i64 (-1152921504606846976)] := Blk.ext (Blk.newAt (by simp)) h2
  have he2 : Ext w w2 := ext_by
  have hb1 : w1.heap.size < b := by rw [World.size_alloc] at hb0; omega
  clear hb0
  clear h1 h2 hc_w1 hf_w1 hz_w1 hc_w2 hf_w2 HV HPR
  generalize w1.heap.size = z9 at *
  have e0 := Lib.hid he2
  refine wp_range_flat (nb := w.heap.size) (spPairs_iter _ _ al ah bl bh w.heap.size w2 hB) rfl Try.call94 (by omega) (fun _ => rfl)
    (fun pre W => (((∀ v ∈ pre, (f v.1 v.2).e = 0) ∧ Ext w W) ∧ Blk W (w.heap.size + 1 + 1) 151 #[.func (.func fid) #[] cap]) ∧ Blk W (w.heap.size + 1 + 1 + 1) 32 #[.int .i64 0, .int .i64 0] ∧ Blk W (w.heap.size + 1 + 1 + 1 + 1) 41 #[.int .i64 0] ∧ Blk W z9 32 #[.int .i64 (accQ ⟨1152921504606846976, -1152921504606846976⟩ (pre.map fun p => f p.1 p.2)).lo, .int .i64 (accQ ⟨1152921504606846976, -1152921504606846976⟩ (pre.map fun p => f p.1 p.2)).hi])
    (fun c s W => ((c = .ret ∧ ∃ pre x, s = pre ++ [x] ∧ (∀ v ∈ pre, (f v.1 v.2).e = 0) ∧ (f x.1 x.2).e ≠ 0) ∧ Ext w W) ∧ Blk W (w.heap.size + 1 + 1 + 1) 32 #[.int .i64 0, .int .i64 0] ∧ Blk W (w.heap.size + 1 + 1 + 1 + 1) 41 #[.int .i64 (lastE (fun p : Int × Int => f p.1 p.2) s)])
    (OwnFrom.and (OwnFrom.and (OwnFrom.and (ownFrom_pure _ _) (ownFrom_ext (by omega))) (ownFrom_blk _ _ _ _)) (OwnFrom.and (ownFrom_blk _ _ _ _) (OwnFrom.and (ownFrom_blk _ _ _ _) (ownFrom_blk _ _ _ _))))
    (fun c => OwnFrom.and (OwnFrom.and (ownFrom_pure _ _) (ownFrom_ext (by omega))) (OwnFrom.and (ownFrom_blk _ _ _ _) (ownFrom_blk _ _ _ _)))
    ⟨⟨⟨by simp, he2⟩, hB5⟩, hB6, hB7, hB9⟩
    (fun x t => (((t.setIfInBounds 26 (.int .i64 x.1)).setIfInBounds 27 (.int .i64 x.2)).setIfInBounds 10 (.int .i64 x.1)).setIfInBounds 11 (.int .i64 x.2)) ?assign ?body ?done ?stop
  case assign =>
    intro l n x W K hK
    simp only [List.setIfInBounds_toArray, List.set_cons_zero, List.set_cons_succ] at hK
    simp only [pairE]
    gi_wp2
    exact hK
  case body =>
    rintro l n pre x W hx hW ⟨⟨⟨hp, he⟩, hb5⟩, hb6, hb7, hb9⟩
    simp only [List.setIfInBounds_toArray, List.set_cons_zero, List.set_cons_succ]
    have hc5 := hb5.cell
    have hc6 := hb6.cell
    have hc7 := hb7.cell
    have hc9 := hb9.cell
    have hf6 := hb6.frozen
    have hf7 := hb7.frozen
    have hf9 := hb9.frozen
    have hl5 := hb5.lt
    have hl6 := hb6.lt
    have hl7 := hb7.lt
    have hl9 := hb9.lt
    have hfx := Hf.out x hx W he
    obtain ⟨⟨lo, hi, er⟩, hv⟩ : ∃ v, f x.1 x.2 = v := ⟨_, rfl⟩
    rw [hv] at hfx
    obtain ⟨⟨ol, oh⟩, hacc⟩ : ∃ v, accQ ⟨1152921504606846976, -1152921504606846976⟩ (pre.map fun p => f p.1 p.2) = v := ⟨_, rfl⟩
    rw [hacc] at hb9 hc9
    have HA := Lib.hid hacc
    have HFx := Lib.hid hfx
    have HV := Lib.hid hv
    have HB5 := Lib.hid hb5
    have HB6 := Lib.hid hb6
    have HB7 := Lib.hid hb7
    have HB9 := Lib.hid hb9
    have HP := Lib.hid hp
    have HE := Lib.hid he
    have hne : z9 ≠ w.heap.size + 1 + 1 + 1 ∧ z9 ≠ w.heap.size + 1 + 1 + 1 + 1 := by omega
    clear hb5 hb6 hb7 hb9 hp hfx hv he hacc
    gi_wp2
    refine ⟨trivial, ?_⟩
    refine ⟨fun h => (by cases h), (CallsIn.inRound l (callsIn_wide.2 HFx.out)).mono ?_⟩
    rintro e w' ⟨rfl, h1⟩
    have HB5' := Lib.hid (HB5.out.ext h1)
    have HB6' := Lib.hid (HB6.out.ext h1)
    have HB7' := Lib.hid (HB7.out.ext h1)
    have HB9' := Lib.hid (HB9.out.ext h1)
    have H1 := Lib.hid h1
    clear hc5 hc6 hc7 hc9 hf6 hf7 hf9 h1
    have hc6 := HB6'.out.cell
    have hc7 := HB7'.out.cell
    have hc9 := HB9'.out.cell
    have hf6 := HB6'.out.frozen
    have hf7 := HB7'.out.frozen
    have hf9 := HB9'.out.frozen
    have hl6 := HB6'.out.lt
    have hl7 := HB7'.out.lt
    have hl9 := HB9'.out.lt
    by_cases her : er = 0
    · subst her
      gi_wp2
      refine ⟨(H1.out.keepsFrom _).trans (((KeepsOthers.setCell _ _ _).from _).trans ((KeepsOthers.setCell _ _ _).from _)), ((H1.out.kpX (by omega) _).set (by dsimp only; omega) (by simp; omega) _).set (by dsimp only; omega) (by simp; omega) _, ?_⟩
      refine ⟨⟨⟨?_, ((HE.out.trans H1.out).set (by dsimp only; omega) _).set (by dsimp only; omega) _⟩, (HB5'.out.far (by dsimp only; omega) _).far (by dsimp only; omega) _⟩, (HB6'.out.far (by dsimp only; omega) _).far (by dsimp only; omega) _, (HB7'.out.far (by dsimp only; omega) _).far (by dsimp only; omega) _, ?_⟩
      · intro q hq
        rcases List.mem_append.1 hq with hq | hq
        · exact HP.out q hq
        · simp at hq; subst hq; rw [HV.out]
      · rw [List.map_append, List.map_singleton, accQ_snoc, HA.out, HV.out]
        exact (HB9'.out.set_ 0 _).set_ 1 _
    · gi_wp2
      refine ⟨(H1.out.keepsFrom _).trans (((KeepsOthers.setCell _ _ _).from _).trans (((KeepsOthers.setCell _ _ _).from _).trans ((KeepsOthers.setCell _ _ _).from _))), ?_⟩
      refine ⟨⟨⟨rfl, pre, x, rfl, HP.out, by rw [HV.out]; exact her⟩, (((HE.out.trans H1.out).set (by dsimp only; omega) _).set (by dsimp only; omega) _).set (by dsimp only; omega) _⟩, ((HB6'.out.set_ 0 _).set_ 1 _).far (by dsimp only; omega) _, ?_⟩
      rw [lastE_snoc, HV.out]
      exact ((HB7'.out.far (by dsimp only; omega) _).far (by dsimp only; omega) _).set_ 0 _
  case done =>
    rintro D W hD ⟨⟨⟨hp, he⟩, hb5⟩, hb6, hb7, hb9⟩ hK
    have hR2 := HR.out
    rw [joinAll_all _ _ (by simpa using hp)] at hR2
    generalize accQ _ _ = o at *
    obtain ⟨ol, oh⟩ := o
    subst hR2
    have hc6 := hb6.cell
    have hc7 := hb7.cell
    have hc9 := hb9.cell
    have hf6 := hb6.frozen
    have hf7 := hb7.frozen
    have hl6 := hb6.lt
    have hl7 := hb7.lt
    have hl9 := hb9.lt
    have n1 : w.heap.size + 1 + 1 + 1 ≠ D := by omega
    have n2 : w.heap.size + 1 + 1 + 1 + 1 ≠ D := by omega
    dsimp only
    go_wp2_with fail
    refine ⟨by simp, .inl ⟨_, _, rfl, run_takeDeferred (by rw [Below.heap_setCell _ _ _ _ (fun e => n2 e.symm), Below.heap_setCell _ _ _ _ (fun e => n1 e.symm), Below.heap_setCell _ _ _ _ (fun e => n1 e.symm)]; exact hK), ?_⟩⟩
    have hB6 := (Blk.put (o := Obj.deferred none) (((hb6.set_ 0 (.int .i64 ol)).set_ 1 (.int .i64 oh)).far (p := ⟨w.heap.size + 1 + 1 + 1 + 1, 0, none⟩) (by dsimp only; omega) (.int .i64 0)) n1).cell
    have hB7 := (Blk.put (o := Obj.deferred none) (((hb7.far (p := ⟨w.heap.size + 1 + 1 + 1, 0, none⟩) (by dsimp only; omega) (.int .i64 ol)).far (p := ⟨w.heap.size + 1 + 1 + 1, 1, none⟩) (by dsimp only; omega) (.int .i64 oh)).set_ 0 (.int .i64 0)) n2).cell
    refine ⟨_, ?_, rfl, Ext.put (((he.set (by dsimp only; omega) _).set (by dsimp only; omega) _).set (by dsimp only; omega) _) (by omega)⟩
    simp only [results, Try.results84]
    go_simp
  case stop =>
    rintro D c s W hD hpre ⟨⟨⟨rfl, pre, x, hs, hp, hx⟩, he⟩, hb6, hb7⟩ hK
    have hR2 := HR.out.symm.trans (joinAll_stop (f := fun p : Int × Int => f p.1 p.2) hs hpre hp hx)
    generalize lastE _ s = er at hR2 hb7
    subst hR2
    have n1 : w.heap.size + 1 + 1 + 1 ≠ D := by omega
    have n2 : w.heap.size + 1 + 1 + 1 + 1 ≠ D := by omega
    dsimp only
    go_wp2_with fail
    refine ⟨by simp, .inl ⟨_, _, rfl, run_takeDeferred hK, ?_⟩⟩
    have hB6 := (Blk.put (o := Obj.deferred none) hb6 n1).cell
    have hB7 := (Blk.put (o := Obj.deferred none) hb7 n2).cell
    refine ⟨_, ?_, rfl, Ext.put he (by omega)⟩
    simp only [results, Try.results84]
    go_simp
    exact ⟨⟨rfl, rfl⟩, rfl⟩

set_option maxHeartbeats 1000000 in
theorem spCombine_no (al ah bl bh : Int) (fid : Nat) (cap : Array Value) (w : World) (h0 : sp2Err ⟨al, ah⟩ ⟨bl, bh⟩ ≠ 0) :
    Calls Try.prog 84 #[.agg #[.int .i64 al, .int .i64 ah], .agg #[.int .i64 bl, .int .i64 bh], .func (.func fid) #[] cap] w fun e w' => e = .returned (spRV (noSp (sp2Err ⟨al, ah⟩ ⟨bl, bh⟩))) ∧ Ext w w' := by
  have HV := Lib.hid fun W => spValid_c al ah bl bh W
  generalize sp2Err ⟨al, ah⟩ ⟨bl, bh⟩ = E at *
  go_enter Try.func84, Try.ntmps84
  go_wp2_with fail
  refine (HV.out _).mono ?_
  rintro e w1 ⟨rfl, h1⟩
  obtain ⟨hc_w1, hf_w1, hz_w1⟩ := bcell h1; (try simp only [szA] at hz_w1); (try have := wz0 w w1); (try have := wz1 w w1); (try have := wz2 w w1); (try have := wz3 w w1); (try have := wz4 w w1)
  go_wp2_with fail
  (try simp only [Exit.inBlock, Exit.then]); apply bodyPost_ret; (focus (simp only [results, Try.results84]; go_simp; try rfl)); rfl
  exact ⟨rfl, ext_by⟩
theorem pairs_i64 {al ah bl bh : Int} (h0 : sp2Err ⟨al, ah⟩ ⟨bl, bh⟩ = 0) : (∀ p ∈ pairsV al ah bl bh, isI64 p.1 ∧ isI64 p.2) ∧ -1152921504606846976 ≤ al ∧ al ≤ ah ∧ ah ≤ 1152921504606846976 ∧ -1152921504606846976 ≤ bl ∧ bl ≤ bh ∧ bh ≤ 1152921504606846976 := by
  have hb : (-1152921504606846976 ≤ al ∧ al ≤ ah ∧ ah ≤ 1152921504606846976) ∧ -1152921504606846976 ≤ bl ∧ bl ≤ bh ∧ bh ≤ 1152921504606846976 := by
    unfold sp2Err at h0
    by_cases h1 : spErr ⟨al, ah⟩ = 0
    · rw [if_pos h1] at h0
      exact ⟨spErr_ok.1 h1, spErr_ok.1 h0⟩
    · rw [if_neg h1] at h0
      exact absurd h0 h1
  refine ⟨fun p hp => ?_, by omega⟩
  unfold isI64
  simp only [pairsV, List.mem_cons, List.not_mem_nil, or_false] at hp
  rcases hp with rfl | rfl | rfl | rfl
  all_goals dsimp only
  all_goals omega
set_option maxHeartbeats 1000000 in
theorem spMul_c (al ah bl bh : Int) (w : World) :
    Calls Try.prog 76 #[.agg #[.int .i64 al, .int .i64 ah], .agg #[.int .i64 bl, .int .i64 bh]] w fun e w' => e = .returned (spRV (mulM ⟨al, ah⟩ ⟨bl, bh⟩)) ∧ Ext w w' := by
  have H : Hid (∀ W, Calls Try.prog 84 #[.agg #[.int .i64 al, .int .i64 ah], .agg #[.int .i64 bl, .int .i64 bh], .func (.func 86) #[] #[]] W fun e w' => e = .returned (spRV (mulM ⟨al, ah⟩ ⟨bl, bh⟩)) ∧ Ext W w') := Lib.hid fun W => by
    by_cases h0 : sp2Err ⟨al, ah⟩ ⟨bl, bh⟩ = 0
    · exact spCombine_ok al ah bl bh _ #[] mulF W h0 Try.call86 fun p hp W2 _ => spMul1_c p.1 p.2 W2 ((pairs_i64 h0).1 p hp).1 ((pairs_i64 h0).1 p hp).2
    · unfold mulM combM
      rw [if_neg h0]
      exact spCombine_no al ah bl bh _ _ W h0
  generalize mulM _ _ = R at *
  obtain ⟨⟨rl, rh⟩, re⟩ := R
  go_enter Try.func76, Try.ntmps76
  go_wp2_with fail
  refine (H.out _).mono ?_
  rintro e w1 ⟨rfl, h1⟩
  obtain ⟨hc_w1, hf_w1, hz_w1⟩ := bcell h1; (try simp only [szA] at hz_w1); (try have := wz0 w w1); (try have := wz1 w w1); (try have := wz2 w w1); (try have := wz3 w w1); (try have := wz4 w w1)
  go_wp2_with fail
  (try simp only [Exit.inBlock, Exit.then]); apply bodyPost_ret; (focus (simp only [results, Try.results76]; go_simp; try rfl)); rfl
  exact ⟨rfl, ext_by⟩
end Go.Proofs.Ytfniicgoeljmdaa
