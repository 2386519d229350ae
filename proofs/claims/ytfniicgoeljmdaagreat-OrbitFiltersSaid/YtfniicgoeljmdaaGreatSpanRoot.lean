/- Whether something is so of all corners: the program. No condition. The span of an operation: the program. No condition. Roots: the program. No condition. -/
import Derived.Test.YtfniicgoeljmdaaGreatLaw
import Derived.Test.YtfniicgoeljmdaaGreatSame
import Derived.Laws.EntriesVeiled
import Derived.Test.YtfniicgoeljmdaaGreatPairs
import Derived.Test.YtfniicgoeljmdaaGreatSpanLaw
namespace Go.Proofs.YtfniicgoeljmdaaGreat
open Go.RowKit Go.Shelf
attribute [local go_sem] Oper.semAt_some

theorem ownFrom_blk {β : Type} (B b : Nat) (T : TypeId) (f : β → Array Value) : OwnFrom B (fun s W => Blk W b T (f s)) := fun s X Y row hs hg hr => by
  refine (hg.block b hs.lt (fun e => ?_)).trans hs
  obtain ⟨_, o, ho, hc⟩ := hr b e.symm
  have hs' : X.heap[b]? = some (.cells (f s) T (0, 0)) := hs
  rw [hs'] at ho
  injection ho with ho
  rw [← ho] at hc
  cases hc
theorem ownFrom_ext {β : Type} {B : Nat} {w : World} (h : w.heap.size ≤ B) : OwnFrom B (fun (_ : β) W => Ext w W) := ownFrom_below (Nat.le_refl _) h

theorem Blk.put {W : World} {g : Nat} {t : TypeId} {cs : Array Value} {D : Nat} {o : Obj} (h : Blk W g t cs) (hne : g ≠ D) : Blk (W.putObj D o) g t cs := ((grownBy_putObj' W D o).block g h.lt (fun e => hne (by injection e))).trans h
theorem Ext.put {w W : World} {D : Nat} {o : Obj} (h : Ext w W) (hD : w.heap.size ≤ D) : Ext w (W.putObj D o) := grown_ext h (grownBy_putObj' W D o) fun k e => by injection e with e; omega

set_option maxRecDepth 100000 in
set_option maxHeartbeats 2000000 in
theorem all_c (xl xh yl yh : Int) (fid : Nat) (cap : Array Value) (p : Vec → Bool) (w : World)
    (hcall : ∀ (xs : Array Value) (W : World), (callFunc fid xs).run Tryz.prog W = .ok (.enter fid xs) W)
    (hf : ∀ v ∈ cornersL xl xh yl yh, ∀ W, Ext w W → Calls Tryz.prog fid (#[.agg #[.int .i64 v.x, .int .i64 v.y]] ++ cap) W fun e w' => e = .returned (.bool (p v)) ∧ Ext W w') :
    Calls Tryz.prog 179 #[.agg #[.int .i64 xl, .int .i64 xh, .int .i64 yl, .int .i64 yh], .func (.func fid) #[] cap] w fun e w' => e = .returned (.bool ((cornersL xl xh yl yh).all p)) ∧ Ext w w' := by
  have Hf := Lib.hid hf
  generalize hR : (cornersL xl xh yl yh).all p = R
  have HR := Lib.hid hR
  clear hf hR
  refine (callsIn_wide (n := 6)).1 (callsIn_of_wp_marks Tryz.func179 rfl trivial ?_)
  simp only [Tryz.ntmps179, List.size_toArray, List.length_cons, List.length_nil, Nat.reduceAdd, Nat.reduceSub, Array.replicate_succ, Array.replicate_zero, List.push_toArray, List.append_toArray, List.nil_append, List.cons_append]
  refine wpIn_wide.2 ?_
  go_wp2_with fail
  refine (corners_c _ _ _ _ _).mono ?_
  rintro e w1 ⟨rfl, rfl⟩
  go_wp2_with fail
  refine name_world _ ?_
  intro W0 hW0
  have b1 : Blk W0 (w.heap.size + 1) 158 #[.func (.func fid) #[] cap] := by rw [hW0]; exact ((Blk.newAt (by simp)).alloc _).alloc _
  have b2 : Blk W0 (w.heap.size + 1 + 1) 4 #[.bool false] := by rw [hW0]; exact (Blk.newAt (by simp)).alloc _
  have b3 : Blk W0 (w.heap.size + 1 + 1 + 1) 112 #[.int .i64 xl, .int .i64 xh, .int .i64 yl, .int .i64 yh] := by rw [hW0]; exact Blk.newAt (by simp)
  have e0 : Ext w W0 := by rw [hW0]; (repeat' (first | exact Ext.refl _ | assumption | apply Ext.alloc | apply Ext.drew | refine Ext.set ?_ (by dsimp only; omega) _ | refine Ext.trans ?_ (by assumption)))
  have hz0 : W0.heap.size = w.heap.size + 4 := by rw [hW0]; simp
  clear hW0
  refine wp_range_box (nb := w.heap.size) (corners_iter _ _ xl xh yl yh w.heap.size W0 b3) rfl Tryz.call216 (by omega) (fun _ => rfl)
    (fun pre W => ((∀ v ∈ pre, p v = true) ∧ Ext w W) ∧ Blk W (w.heap.size + 1) 158 #[.func (.func fid) #[] cap] ∧ Blk W (w.heap.size + 1 + 1) 4 #[.bool false])
    (fun c pre W => ((c = .ret ∧ ∃ v ∈ pre, p v = false) ∧ Ext w W) ∧ Blk W (w.heap.size + 1 + 1) 4 #[.bool false])
    (OwnFrom.and (OwnFrom.and (ownFrom_pure _ _) (ownFrom_ext (by omega))) (OwnFrom.and (ownFrom_blk _ _ _ _) (ownFrom_blk _ _ _ _)))
    (fun c => OwnFrom.and (OwnFrom.and (ownFrom_pure _ _) (ownFrom_ext (by omega))) (ownFrom_blk _ _ _ _))
    ⟨⟨by simp, e0⟩, b1, b2⟩
    (fun x b t => (t.setIfInBounds 8 (.agg #[.int .i64 x.x, .int .i64 x.y])).setIfInBounds 5 (.pointer (some ⟨b, 0, none⟩))) 85 (fun x => #[.int .i64 x.x, .int .i64 x.y]) ?assign ?body ?done ?stop
  case assign =>
    intro l n x W K hK
    simp only [List.setIfInBounds_toArray, List.set_cons_zero, List.set_cons_succ] at hK
    simp only [vecE]
    gi_wp2
    exact hK
  case body =>
    rintro l n pre x b W hx hb hBx hW ⟨⟨hp, he⟩, hb1, hb2⟩
    simp only [List.setIfInBounds_toArray, List.set_cons_zero, List.set_cons_succ]
    have hc1 := hb1.cell
    have hcx := hBx.cell
    have hl1 := hb1.lt
    have hlx := hBx.lt
    have hc2 := hb2.cell
    have hf2 := hb2.frozen
    have hl2 := hb2.lt
    have hfx := Hf.out x hx W he
    obtain ⟨v, hv⟩ : ∃ v, p x = v := ⟨_, rfl⟩
    rw [hv] at hfx
    have HFx := Lib.hid hfx
    have HV := Lib.hid hv
    have HB1 := Lib.hid hb1
    have HB2 := Lib.hid hb2
    have HP := Lib.hid hp
    have HE := Lib.hid he
    clear hb1 hb2 hBx hp hfx hv he
    gi_wp2
    refine ⟨trivial, ?_⟩
    refine ⟨fun h => (by cases h), (CallsIn.inRound l (callsIn_wide.2 HFx.out)).mono ?_⟩
    rintro e w' ⟨rfl, h1⟩
    have HB1' := Lib.hid (HB1.out.ext h1)
    have HB2' := Lib.hid (HB2.out.ext h1)
    have H1 := Lib.hid h1
    clear hc1 hcx hc2 hf2 h1
    have hc3 := HB2'.out.cell
    have hf3 := HB2'.out.frozen
    have hl3 := HB2'.out.lt
    cases v
    · gi_wp2
      exact ⟨((H1.out.keepsFrom _).trans ((KeepsOthers.setCell _ _ _).from _)), ⟨⟨⟨rfl, x, by simp, HV.out⟩, (HE.out.trans H1.out).set (by dsimp only; omega) _⟩, HB2'.out.set_ 0 _⟩⟩
    · gi_wp2
      refine ⟨H1.out.keepsFrom _, H1.out.kpX (by omega) _, ⟨?_, HE.out.trans H1.out⟩, HB1'.out, HB2'.out⟩
      intro q hq
      rcases List.mem_append.1 hq with hq | hq
      · exact HP.out q hq
      · simp at hq; subst hq; exact HV.out
  case done =>
    rintro D W hD ⟨⟨hp, he⟩, hb1, hb2⟩ hK
    have hc2 := hb2.cell
    have hf2 := hb2.frozen
    have hl2 := hb2.lt
    have hpa : (cornersL xl xh yl yh).all p = true := List.all_eq_true.2 hp
    have hne : w.heap.size + 1 + 1 ≠ D := by omega
    obtain rfl := HR.out.symm.trans hpa
    dsimp only
    go_wp2_with fail
    refine ⟨by simp, .inl ⟨_, _, rfl, run_takeDeferred (by rw [Below.heap_setCell _ _ _ _ (fun e => hne e.symm)]; exact hK), ?_⟩⟩
    have hB9 := (Blk.put (o := Obj.deferred none) (hb2.set_ 0 (.bool true)) hne).cell
    refine ⟨.bool true, ?_, rfl, Ext.put (he.set (by dsimp only; omega) _) (by omega)⟩
    simp only [results, Tryz.results179]
    go_simp
  case stop =>
    rintro D c pre W hD hpre ⟨⟨⟨rfl, v, hv, hpv⟩, he⟩, hb2⟩ hK
    have hpa : (cornersL xl xh yl yh).all p = false := by
      rw [List.all_eq_false]
      exact ⟨v, hpre.subset hv, by simp [hpv]⟩
    obtain rfl := HR.out.symm.trans hpa
    have hne : w.heap.size + 1 + 1 ≠ D := by omega
    dsimp only
    go_wp2_with fail
    refine ⟨by simp, .inl ⟨_, _, rfl, run_takeDeferred hK, ?_⟩⟩
    have hB9 := (Blk.put (o := Obj.deferred none) hb2 hne).cell
    refine ⟨.bool false, ?_, rfl, Ext.put he (by omega)⟩
    simp only [results, Tryz.results179]
    go_simp
end Go.Proofs.YtfniicgoeljmdaaGreat

namespace Go.Proofs.YtfniicgoeljmdaaGreat
open Go.RowKit Go.Shelf
attribute [local go_sem] Oper.semAt_some

def accQ (o : Sp) (l : List Quo) : Sp := l.foldl joinQ o
theorem accQ_snoc (o : Sp) (l : List Quo) (q : Quo) : accQ o (l ++ [q]) = ⟨min (accQ o l).lo q.lo, max (accQ o l).hi q.hi⟩ := by unfold accQ; rw [List.foldl_append]; rfl
theorem joinAll_all : ∀ (l : List Quo) (o : Sp), (∀ q ∈ l, q.e = 0) → joinAll l o = ⟨accQ o l, 0⟩
  | [], _, _ => rfl
  | q :: l, o, h => by
    rw [joinAll, if_pos (h q (by simp)), joinAll_all l _ fun x hx => h x (by simp [hx])]
    rfl
theorem joinAll_bad : ∀ (l : List Quo) (o : Sp) (q : Quo) (r : List Quo), (∀ q ∈ l, q.e = 0) → q.e ≠ 0 → joinAll (l ++ q :: r) o = noSp q.e
  | [], o, q, r, _, h => by rw [List.nil_append, joinAll, if_neg h]
  | x :: l, o, q, r, h, hq => by
    rw [List.cons_append, joinAll, if_pos (h x (by simp)), joinAll_bad l _ q r (fun y hy => h y (by simp [hy])) hq]
/-- The error of the last of a list. -/
def lastE {β : Type} (f : β → Quo) (s : List β) : Int := match s.getLast? with | some x => (f x).e | none => 0
theorem lastE_snoc {β : Type} (f : β → Quo) (s : List β) (x : β) : lastE f (s ++ [x]) = (f x).e := by simp [lastE]
theorem joinAll_stop {β : Type} {f : β → Quo} {L pre s : List β} {x : β} {o : Sp} (hs : s = pre ++ [x]) (hp : s <+: L) (h : ∀ v ∈ pre, (f v).e = 0) (hx : (f x).e ≠ 0) : joinAll (L.map f) o = noSp (lastE f s) := by
  subst hs
  obtain ⟨r, rfl⟩ := hp
  rw [lastE_snoc, List.append_assoc, List.map_append, List.map_append]
  exact joinAll_bad _ _ _ _ (by simpa using h) hx
set_option maxRecDepth 100000 in
set_option maxHeartbeats 2000000 in
theorem spCombine_ok (al ah bl bh : Int) (fid : Nat) (cap : Array Value) (f : Int → Int → Quo) (w : World) (h0 : sp2Err ⟨al, ah⟩ ⟨bl, bh⟩ = 0)
    (hcall : ∀ (xs : Array Value) (W : World), (callFunc fid xs).run Tryz.prog W = .ok (.enter fid xs) W)
    (hf : ∀ p ∈ pairsV al ah bl bh, ∀ W, Ext w W → Calls Tryz.prog fid (#[.int .i64 p.1, .int .i64 p.2] ++ cap) W fun e w' => e = .returned (quoV (f p.1 p.2)) ∧ Ext W w') :
    Calls Tryz.prog 268 #[.agg #[.int .i64 al, .int .i64 ah], .agg #[.int .i64 bl, .int .i64 bh], .func (.func fid) #[] cap] w fun e w' => e = .returned (spRV (combM f ⟨al, ah⟩ ⟨bl, bh⟩)) ∧ Ext w w' := by
  have HV := Lib.hid fun W => spValid_c al ah bl bh W
  rw [h0] at HV
  have HPR := Lib.hid fun W => spPairs_c al ah bl bh W
  have Hf := Lib.hid hf
  generalize hR : combM f ⟨al, ah⟩ ⟨bl, bh⟩ = R
  unfold combM at hR
  rw [if_pos h0] at hR
  have HR : Hid (joinAll ((pairsV al ah bl bh).map fun p => f p.1 p.2) ⟨1152921504606846976, -1152921504606846976⟩ = R) := hR
  clear hf hR h0
  refine (callsIn_wide (n := 6)).1 (callsIn_of_wp_marks Tryz.func268 rfl trivial ?_)
  simp only [Tryz.ntmps268, List.size_toArray, List.length_cons, List.length_nil, Nat.reduceAdd, Nat.reduceSub, Array.replicate_succ, Array.replicate_zero, List.push_toArray, List.append_toArray, List.nil_append, List.cons_append]
  refine wpIn_wide.2 ?_
  go_wp2_with fail
  refine (HV.out _).mono ?_
  rintro e w1 ⟨rfl, h1⟩
  obtain ⟨hc_w1, hf_w1, hz_w1⟩ := bcell h1; (repeat (first | rw [World.size_alloc] at hz_w1 | rw [World.size_drew] at hz_w1 | rw [World.size_setCell] at hz_w1)); (try (have : w.heap.size < w1.heap.size := (by omega))); (try (have : w.heap.size + 1 < w1.heap.size := (by omega))); (try (have : w.heap.size + 1 + 1 < w1.heap.size := (by omega))); (try (have : w.heap.size + 1 + 1 + 1 < w1.heap.size := (by omega))); (try (have : w.heap.size + 1 + 1 + 1 + 1 < w1.heap.size := (by omega)))
  go_wp2_with fail
  refine (HPR.out _).mono ?_
  rintro e w2 ⟨b, rfl, h2, hb0, hB⟩
  obtain ⟨hc_w2, hf_w2, hz_w2⟩ := bcell h2; (repeat (first | rw [World.size_alloc] at hz_w2 | rw [World.size_drew] at hz_w2 | rw [World.size_setCell] at hz_w2)); (try (have : w.heap.size < w2.heap.size := (by omega))); (try (have : w.heap.size + 1 < w2.heap.size := (by omega))); (try (have : w.heap.size + 1 + 1 < w2.heap.size := (by omega))); (try (have : w.heap.size + 1 + 1 + 1 < w2.heap.size := (by omega))); (try (have : w.heap.size + 1 + 1 + 1 + 1 < w2.heap.size := (by omega)))
  go_wp2_with fail
  have hB5 : Blk w2 (w.heap.size + 1 + 1) 280 #[.func (.func fid) #[] cap] := Blk.ext (((Blk.ext (((Blk.newAt (by simp)).alloc _).alloc _)) h1).alloc _) h2
  have hB6 : Blk w2 (w.heap.size + 1 + 1 + 1) 26 #[.int .i64 0, .int .i64 0] := Blk.ext (((Blk.ext ((Blk.newAt (by simp)).alloc _)) h1).alloc _) h2
  have hB7 : Blk w2 (w.heap.size + 1 + 1 + 1 + 1) 41 #[.int .i64 0] := Blk.ext (((Blk.ext (Blk.newAt (by simp))) h1).alloc _) h2
  have hB9 : Blk w2 w1.heap.size 26 #[.int .i64 1152921504606846976, .int .i64 (-1152921504606846976)] := Blk.ext (Blk.newAt (by simp)) h2
  have he2 : Ext w w2 := by (repeat' (first | exact Ext.refl _ | assumption | apply Ext.alloc | apply Ext.drew | refine Ext.set ?_ (by dsimp only; omega) _ | refine Ext.trans ?_ (by assumption)))
  have hb1 : w1.heap.size < b := by rw [World.size_alloc] at hb0; omega
  clear hb0
  clear h1 h2 hc_w1 hf_w1 hz_w1 hc_w2 hf_w2 HV HPR
  generalize w1.heap.size = z9 at *
  have e0 := Lib.hid he2
  refine wp_range_flat (nb := w.heap.size) (spPairs_iter _ _ al ah bl bh w.heap.size w2 hB) rfl Tryz.call279 (by omega) (fun _ => rfl)
    (fun pre W => (((∀ v ∈ pre, (f v.1 v.2).e = 0) ∧ Ext w W) ∧ Blk W (w.heap.size + 1 + 1) 280 #[.func (.func fid) #[] cap]) ∧ Blk W (w.heap.size + 1 + 1 + 1) 26 #[.int .i64 0, .int .i64 0] ∧ Blk W (w.heap.size + 1 + 1 + 1 + 1) 41 #[.int .i64 0] ∧ Blk W z9 26 #[.int .i64 (accQ ⟨1152921504606846976, -1152921504606846976⟩ (pre.map fun p => f p.1 p.2)).lo, .int .i64 (accQ ⟨1152921504606846976, -1152921504606846976⟩ (pre.map fun p => f p.1 p.2)).hi])
    (fun c s W => ((c = .ret ∧ ∃ pre x, s = pre ++ [x] ∧ (∀ v ∈ pre, (f v.1 v.2).e = 0) ∧ (f x.1 x.2).e ≠ 0) ∧ Ext w W) ∧ Blk W (w.heap.size + 1 + 1 + 1) 26 #[.int .i64 0, .int .i64 0] ∧ Blk W (w.heap.size + 1 + 1 + 1 + 1) 41 #[.int .i64 (lastE (fun p : Int × Int => f p.1 p.2) s)])
    (OwnFrom.and (OwnFrom.and (OwnFrom.and (ownFrom_pure _ _) (ownFrom_ext (by omega))) (ownFrom_blk _ _ _ _)) (OwnFrom.and (ownFrom_blk _ _ _ _) (OwnFrom.and (ownFrom_blk _ _ _ _) (ownFrom_blk _ _ _ _))))
    (fun c => OwnFrom.and (OwnFrom.and (ownFrom_pure _ _) (ownFrom_ext (by omega))) (OwnFrom.and (ownFrom_blk _ _ _ _) (ownFrom_blk _ _ _ _)))
    ⟨⟨⟨by simp, he2⟩, hB5⟩, hB6, hB7, hB9⟩
    (fun x t => (((t.setIfInBounds 26 (.int .i64 x.1)).setIfInBounds 27 (.int .i64 x.2)).setIfInBounds 10 (.int .i64 x.1)).setIfInBounds 11 (.int .i64 x.2)) ?assign ?body ?done ?stop
  case assign =>
    intro l n x W K hK
    simp only [List.setIfInBounds_toArray, List.set_cons_zero, List.set_cons_succ] at hK
    simp only [pairE]
    gi_wp2
    exact hK
  case body =>
    rintro l n pre x W hx hW ⟨⟨⟨hp, he⟩, hb5⟩, hb6, hb7, hb9⟩
    simp only [List.setIfInBounds_toArray, List.set_cons_zero, List.set_cons_succ]
    have hc5 := hb5.cell
    have hc6 := hb6.cell
    have hc7 := hb7.cell
    have hc9 := hb9.cell
    have hf6 := hb6.frozen
    have hf7 := hb7.frozen
    have hf9 := hb9.frozen
    have hl5 := hb5.lt
    have hl6 := hb6.lt
    have hl7 := hb7.lt
    have hl9 := hb9.lt
    have hfx := Hf.out x hx W he
    obtain ⟨⟨lo, hi, er⟩, hv⟩ : ∃ v, f x.1 x.2 = v := ⟨_, rfl⟩
    rw [hv] at hfx
    obtain ⟨⟨ol, oh⟩, hacc⟩ : ∃ v, accQ ⟨1152921504606846976, -1152921504606846976⟩ (pre.map fun p => f p.1 p.2) = v := ⟨_, rfl⟩
    rw [hacc] at hb9 hc9
    have HA := Lib.hid hacc
    have HFx := Lib.hid hfx
    have HV := Lib.hid hv
    have HB5 := Lib.hid hb5
    have HB6 := Lib.hid hb6
    have HB7 := Lib.hid hb7
    have HB9 := Lib.hid hb9
    have HP := Lib.hid hp
    have HE := Lib.hid he
    have hne : z9 ≠ w.heap.size + 1 + 1 + 1 ∧ z9 ≠ w.heap.size + 1 + 1 + 1 + 1 := by omega
    clear hb5 hb6 hb7 hb9 hp hfx hv he hacc
    gi_wp2
    refine ⟨trivial, ?_⟩
    refine ⟨fun h => (by cases h), (CallsIn.inRound l (callsIn_wide.2 HFx.out)).mono ?_⟩
    rintro e w' ⟨rfl, h1⟩
    have HB5' := Lib.hid (HB5.out.ext h1)
    have HB6' := Lib.hid (HB6.out.ext h1)
    have HB7' := Lib.hid (HB7.out.ext h1)
    have HB9' := Lib.hid (HB9.out.ext h1)
    have H1 := Lib.hid h1
    clear hc5 hc6 hc7 hc9 hf6 hf7 hf9 h1
    have hc6 := HB6'.out.cell
    have hc7 := HB7'.out.cell
    have hc9 := HB9'.out.cell
    have hf6 := HB6'.out.frozen
    have hf7 := HB7'.out.frozen
    have hf9 := HB9'.out.frozen
    have hl6 := HB6'.out.lt
    have hl7 := HB7'.out.lt
    have hl9 := HB9'.out.lt
    by_cases her : er = 0
    · subst her
      gi_wp2
      refine ⟨(H1.out.keepsFrom _).trans (((KeepsOthers.setCell _ _ _).from _).trans ((KeepsOthers.setCell _ _ _).from _)), ((H1.out.kpX (by omega) _).set (by dsimp only; omega) (by simp; omega) _).set (by dsimp only; omega) (by simp; omega) _, ?_⟩
      refine ⟨⟨⟨?_, ((HE.out.trans H1.out).set (by dsimp only; omega) _).set (by dsimp only; omega) _⟩, (HB5'.out.far (by dsimp only; omega) _).far (by dsimp only; omega) _⟩, (HB6'.out.far (by dsimp only; omega) _).far (by dsimp only; omega) _, (HB7'.out.far (by dsimp only; omega) _).far (by dsimp only; omega) _, ?_⟩
      · intro q hq
        rcases List.mem_append.1 hq with hq | hq
        · exact HP.out q hq
        · simp at hq; subst hq; rw [HV.out]
      · rw [List.map_append, List.map_singleton, accQ_snoc, HA.out, HV.out]
        exact (HB9'.out.set_ 0 _).set_ 1 _
    · gi_wp2
      refine ⟨(H1.out.keepsFrom _).trans (((KeepsOthers.setCell _ _ _).from _).trans (((KeepsOthers.setCell _ _ _).from _).trans ((KeepsOthers.setCell _ _ _).from _))), ?_⟩
      refine ⟨⟨⟨rfl, pre, x, rfl, HP.out, by rw [HV.out]; exact her⟩, (((HE.out.trans H1.out).set (by dsimp only; omega) _).set (by dsimp only; omega) _).set (by dsimp only; omega) _⟩, ((HB6'.out.set_ 0 _).set_ 1 _).far (by dsimp only; omega) _, ?_⟩
      rw [lastE_snoc, HV.out]
      exact ((HB7'.out.far (by dsimp only; omega) _).far (by dsimp only; omega) _).set_ 0 _
  case done =>
    rintro D W hD ⟨⟨⟨hp, he⟩, hb5⟩, hb6, hb7, hb9⟩ hK
    have hR2 := HR.out
    rw [joinAll_all _ _ (by simpa using hp)] at hR2
    generalize accQ _ _ = o at *
    obtain ⟨ol, oh⟩ := o
    subst hR2
    have hc6 := hb6.cell
    have hc7 := hb7.cell
    have hc9 := hb9.cell
    have hf6 := hb6.frozen
    have hf7 := hb7.frozen
    have hl6 := hb6.lt
    have hl7 := hb7.lt
    have hl9 := hb9.lt
    have n1 : w.heap.size + 1 + 1 + 1 ≠ D := by omega
    have n2 : w.heap.size + 1 + 1 + 1 + 1 ≠ D := by omega
    dsimp only
    go_wp2_with fail
    refine ⟨by simp, .inl ⟨_, _, rfl, run_takeDeferred (by rw [Below.heap_setCell _ _ _ _ (fun e => n2 e.symm), Below.heap_setCell _ _ _ _ (fun e => n1 e.symm), Below.heap_setCell _ _ _ _ (fun e => n1 e.symm)]; exact hK), ?_⟩⟩
    have hB6 := (Blk.put (o := Obj.deferred none) (((hb6.set_ 0 (.int .i64 ol)).set_ 1 (.int .i64 oh)).far (p := ⟨w.heap.size + 1 + 1 + 1 + 1, 0, none⟩) (by dsimp only; omega) (.int .i64 0)) n1).cell
    have hB7 := (Blk.put (o := Obj.deferred none) (((hb7.far (p := ⟨w.heap.size + 1 + 1 + 1, 0, none⟩) (by dsimp only; omega) (.int .i64 ol)).far (p := ⟨w.heap.size + 1 + 1 + 1, 1, none⟩) (by dsimp only; omega) (.int .i64 oh)).set_ 0 (.int .i64 0)) n2).cell
    refine ⟨_, ?_, rfl, Ext.put (((he.set (by dsimp only; omega) _).set (by dsimp only; omega) _).set (by dsimp only; omega) _) (by omega)⟩
    simp only [results, Tryz.results268]
    go_simp
  case stop =>
    rintro D c s W hD hpre ⟨⟨⟨rfl, pre, x, hs, hp, hx⟩, he⟩, hb6, hb7⟩ hK
    have hR2 := HR.out.symm.trans (joinAll_stop (f := fun p : Int × Int => f p.1 p.2) hs hpre hp hx)
    generalize lastE _ s = er at hR2 hb7
    subst hR2
    have n1 : w.heap.size + 1 + 1 + 1 ≠ D := by omega
    have n2 : w.heap.size + 1 + 1 + 1 + 1 ≠ D := by omega
    dsimp only
    go_wp2_with fail
    refine ⟨by simp, .inl ⟨_, _, rfl, run_takeDeferred hK, ?_⟩⟩
    have hB6 := (Blk.put (o := Obj.deferred none) hb6 n1).cell
    have hB7 := (Blk.put (o := Obj.deferred none) hb7 n2).cell
    refine ⟨_, ?_, rfl, Ext.put he (by omega)⟩
    simp only [results, Tryz.results268]
    go_simp
    exact ⟨⟨rfl, rfl⟩, rfl⟩

set_option maxHeartbeats 1000000 in
theorem spCombine_no (al ah bl bh : Int) (fid : Nat) (cap : Array Value) (w : World) (h0 : sp2Err ⟨al, ah⟩ ⟨bl, bh⟩ ≠ 0) :
    Calls Tryz.prog 268 #[.agg #[.int .i64 al, .int .i64 ah], .agg #[.int .i64 bl, .int .i64 bh], .func (.func fid) #[] cap] w fun e w' => e = .returned (spRV (noSp (sp2Err ⟨al, ah⟩ ⟨bl, bh⟩))) ∧ Ext w w' := by
  have HV := Lib.hid fun W => spValid_c al ah bl bh W
  generalize sp2Err ⟨al, ah⟩ ⟨bl, bh⟩ = E at *
  go_enter Tryz.func268, Tryz.ntmps268
  go_wp2_with fail
  refine (HV.out _).mono ?_
  rintro e w1 ⟨rfl, h1⟩
  obtain ⟨hc_w1, hf_w1, hz_w1⟩ := bcell h1; (repeat (first | rw [World.size_alloc] at hz_w1 | rw [World.size_drew] at hz_w1 | rw [World.size_setCell] at hz_w1)); (try (have : w.heap.size < w1.heap.size := (by omega))); (try (have : w.heap.size + 1 < w1.heap.size := (by omega))); (try (have : w.heap.size + 1 + 1 < w1.heap.size := (by omega))); (try (have : w.heap.size + 1 + 1 + 1 < w1.heap.size := (by omega))); (try (have : w.heap.size + 1 + 1 + 1 + 1 < w1.heap.size := (by omega)))
  go_wp2_with fail
  (try simp only [Exit.inBlock, Exit.then]); apply bodyPost_ret; (focus (simp only [results, Tryz.results268]; go_simp; try rfl)); rfl
  exact ⟨rfl, by (repeat' (first | exact Ext.refl _ | assumption | apply Ext.alloc | apply Ext.drew | refine Ext.set ?_ (by dsimp only; omega) _ | refine Ext.trans ?_ (by assumption)))⟩
theorem pairs_i64 {al ah bl bh : Int} (h0 : sp2Err ⟨al, ah⟩ ⟨bl, bh⟩ = 0) : (∀ p ∈ pairsV al ah bl bh, isI64 p.1 ∧ isI64 p.2) ∧ -1152921504606846976 ≤ al ∧ al ≤ ah ∧ ah ≤ 1152921504606846976 ∧ -1152921504606846976 ≤ bl ∧ bl ≤ bh ∧ bh ≤ 1152921504606846976 := by
  have hb : (-1152921504606846976 ≤ al ∧ al ≤ ah ∧ ah ≤ 1152921504606846976) ∧ -1152921504606846976 ≤ bl ∧ bl ≤ bh ∧ bh ≤ 1152921504606846976 := by
    unfold sp2Err at h0
    by_cases h1 : spErr ⟨al, ah⟩ = 0
    · rw [if_pos h1] at h0
      exact ⟨spErr_ok.1 h1, spErr_ok.1 h0⟩
    · rw [if_neg h1] at h0
      exact absurd h0 h1
  refine ⟨fun p hp => ?_, by omega⟩
  unfold isI64
  simp only [pairsV, List.mem_cons, List.not_mem_nil, or_false] at hp
  rcases hp with rfl | rfl | rfl | rfl
  all_goals dsimp only
  all_goals omega
set_option maxHeartbeats 1000000 in
theorem spMul_c (al ah bl bh : Int) (w : World) :
    Calls Tryz.prog 250 #[.agg #[.int .i64 al, .int .i64 ah], .agg #[.int .i64 bl, .int .i64 bh]] w fun e w' => e = .returned (spRV (mulM ⟨al, ah⟩ ⟨bl, bh⟩)) ∧ Ext w w' := by
  have H : Hid (∀ W, Calls Tryz.prog 268 #[.agg #[.int .i64 al, .int .i64 ah], .agg #[.int .i64 bl, .int .i64 bh], .func (.func 270) #[] #[]] W fun e w' => e = .returned (spRV (mulM ⟨al, ah⟩ ⟨bl, bh⟩)) ∧ Ext W w') := Lib.hid fun W => by
    by_cases h0 : sp2Err ⟨al, ah⟩ ⟨bl, bh⟩ = 0
    · exact spCombine_ok al ah bl bh _ #[] mulF W h0 Tryz.call270 fun p hp W2 _ => spMul1_c p.1 p.2 W2 ((pairs_i64 h0).1 p hp).1 ((pairs_i64 h0).1 p hp).2
    · unfold mulM combM
      rw [if_neg h0]
      exact spCombine_no al ah bl bh _ _ W h0
  generalize mulM _ _ = R at *
  obtain ⟨⟨rl, rh⟩, re⟩ := R
  go_enter Tryz.func250, Tryz.ntmps250
  go_wp2_with fail
  refine (H.out _).mono ?_
  rintro e w1 ⟨rfl, h1⟩
  obtain ⟨hc_w1, hf_w1, hz_w1⟩ := bcell h1; (repeat (first | rw [World.size_alloc] at hz_w1 | rw [World.size_drew] at hz_w1 | rw [World.size_setCell] at hz_w1)); (try (have : w.heap.size < w1.heap.size := (by omega))); (try (have : w.heap.size + 1 < w1.heap.size := (by omega))); (try (have : w.heap.size + 1 + 1 < w1.heap.size := (by omega))); (try (have : w.heap.size + 1 + 1 + 1 < w1.heap.size := (by omega))); (try (have : w.heap.size + 1 + 1 + 1 + 1 < w1.heap.size := (by omega)))
  go_wp2_with fail
  (try simp only [Exit.inBlock, Exit.then]); apply bodyPost_ret; (focus (simp only [results, Tryz.results250]; go_simp; try rfl)); rfl
  exact ⟨rfl, by (repeat' (first | exact Ext.refl _ | assumption | apply Ext.alloc | apply Ext.drew | refine Ext.set ?_ (by dsimp only; omega) _ | refine Ext.trans ?_ (by assumption)))⟩
end Go.Proofs.YtfniicgoeljmdaaGreat

namespace Go.Proofs.YtfniicgoeljmdaaGreat
open Go.RowKit

/-- The bit that comes next. -/
def bitOf : Nat → Int
  | 0 => 0
  | j + 1 => 2 ^ j
/-- The state of the root's loop: k bits to go. -/
def RInv (n : Nat) (out bit : Int) (k : Nat) : Prop := ∃ o : Nat, out = o ∧ o % 2 ^ k = 0 ∧ o + 2 ^ k ≤ 4294967296 ∧ rootF n k o = rootN n ∧ bit = bitOf k
theorem rinv_step {n : Nat} {out bit : Int} {k : Nat} (h : RInv n out bit (k + 1)) (_ : n < 18446744073709551616) :
    0 < bit ∧ ∃ x y b' : Int, bits .or .u64 out bit = x ∧ IntKind.u64.wrap (x * x) = y ∧ bit / 2 = b' ∧ (y ≤ n → RInv n x b' k) ∧ (¬ y ≤ n → RInv n out b' k) := by
  obtain ⟨o, rfl, h1, h2, h3, rfl⟩ := h
  have hp : 0 < 2 ^ k := Nat.pow_pos (by omega)
  have hp2 : 2 ^ (k + 1) = 2 * 2 ^ k := by rw [Nat.pow_succ, Nat.mul_comm]
  have hor := or_bit h1
  obtain ⟨m1, m2⟩ := bit_mod h1
  rw [show bitOf (k + 1) = 2 ^ k from rfl]
  have hb : ((2 : Int) ^ k) = ((2 ^ k : Nat) : Int) := by push_cast; rfl
  have hx : o + 2 ^ k ≤ 4294967295 ∨ o + 2 ^ k = 4294967296 := by omega
  have hlt : (o + 2 ^ k) * (o + 2 ^ k) < 18446744073709551616 := by
    have := Nat.mul_le_mul (show o + 2 ^ k ≤ 4294967295 by omega) (show o + 2 ^ k ≤ 4294967295 by omega)
    omega
  have hb2 : ((2 : Int) ^ k) / 2 = bitOf k := by
    cases k with
    | zero => rfl
    | succ j =>
      rw [show bitOf (j + 1) = 2 ^ j from rfl, Int.pow_succ, Int.mul_ediv_cancel _ (by omega)]
  refine ⟨by rw [hb]; omega, ((o + 2 ^ k : Nat) : Int), (((o + 2 ^ k) * (o + 2 ^ k) : Nat) : Int), _, ?_, ?_, hb2, fun h => ?_, fun h => ?_⟩
  · rw [hb, bits_or_u64_nat o (2 ^ k) (by omega) (by omega), hor]
  · rw [← Int.natCast_mul]; exact wrapN hlt
  · refine ⟨o + 2 ^ k, rfl, m2, by omega, ?_, rfl⟩
    rw [← h3, rootF_step, if_pos (by omega)]
  · refine ⟨o, rfl, m1, by omega, ?_, rfl⟩
    rw [← h3, rootF_step, if_neg (by omega)]
set_option maxHeartbeats 1000000 in
theorem spRoot0_c (n : Nat) (w : World) (hn : n < 18446744073709551616) :
    Calls Tryz.prog 274 #[.int .u64 (n : Int)] w fun e w' => e = .returned (.int .u64 (rootN n : Int)) ∧ w = w' := by
  have HN := Lib.hid hn
  obtain ⟨nz, hnz⟩ : ∃ z : Int, z = n := ⟨_, rfl⟩
  rw [← hnz]
  have HZ := Lib.hid hnz
  obtain ⟨R, hR⟩ : ∃ z : Int, z = rootN n := ⟨_, rfl⟩
  rw [← hR]
  have HR := Lib.hid hR
  clear hn hnz hR
  go_enter Tryz.func274, Tryz.ntmps274
  go_wp2_with fail
  go_loopw [3, 4] (fun ov bv wr => ∃ (out bit : Int) (k : Nat), ov = .int .u64 out ∧ bv = .int .u64 bit ∧ Hid (RInv n out bit k) ∧ wr = w) (fun _ bv _ => (intOf bv).toNat)
  case atStart => exact ⟨0, 2147483648, 32, rfl, rfl, Lib.hid ⟨0, rfl, rfl, by decide, rfl, by decide⟩, rfl⟩
  case round =>
    obtain ⟨out, bit, k, rfl, rfl, HI, rfl⟩ := hrel
    cases k with
    | zero =>
      obtain ⟨o, h1, _, _, h3, h4⟩ := HI.out
      rw [show bitOf 0 = 0 from rfl] at h4
      subst h4
      have h5 : out = R := by rw [h1, HR.out, ← h3]; rfl
      subst h5
      clear h1 h3 HI HR
      go_wp2_with fail
      go_ret
      exact ⟨rfl, rfl⟩
    | succ k =>
      obtain ⟨hb, x, y, b', e1, e2, e3, e4, e5⟩ := rinv_step HI.out HN.out
      have e6 : b' < bit ∧ 0 ≤ b' := by omega
      obtain ⟨e6, e7⟩ := e6
      rw [← HZ.out] at e4 e5
      have E4 := Lib.hid e4
      have E5 := Lib.hid e5
      clear e4 e5 HI
      by_cases hy : y ≤ nz
      · have HI2 := Lib.hid (E4.out hy)
        go_wp2_with fail
        go_roundw
        case rel => exact ⟨x, b', k, rfl, rfl, HI2, trivial⟩
        case measure => simp [intOf]; omega
      · have HI2 := Lib.hid (E5.out hy)
        go_wp2_with fail
        go_roundw
        case rel => exact ⟨out, b', k, rfl, rfl, HI2, trivial⟩
        case measure => simp [intOf]; omega
set_option maxHeartbeats 400000 in
theorem spRoot_c (n : Int) (w : World) (hn : 0 ≤ n) (hn2 : n ≤ 9223372036854775807) :
    Calls Tryz.prog 263 #[.int .i64 n] w fun e w' => e = .returned (.int .i64 (rootN n.toNat : Int)) ∧ w = w' := by
  have hw : IntKind.u64.wrap n = n := by rw [IntKind.wrap_u64]; omega
  have H := Lib.hid fun W => spRoot0_c n.toNat W (by omega)
  have hle := rootN_le (n := n.toNat) (m := 4294967295) (by omega) (by omega)
  rw [show ((n.toNat : Nat) : Int) = n by omega] at H
  obtain ⟨R, hR⟩ : ∃ z : Int, z = rootN n.toNat := ⟨_, rfl⟩
  rw [← hR] at H ⊢
  have hR0 : 0 ≤ R := by omega
  have hR1 : R ≤ 4294967295 := by omega
  clear hR hle
  go_enter Tryz.func263, Tryz.ntmps263
  go_wp2_with fail
  refine (H.out _).mono ?_
  rintro e _ ⟨rfl, rfl⟩
  go_wp2_with fail
  go_ret
  exact ⟨rfl, rfl⟩
end Go.Proofs.YtfniicgoeljmdaaGreat
