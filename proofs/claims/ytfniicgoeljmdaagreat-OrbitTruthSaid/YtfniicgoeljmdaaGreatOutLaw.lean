/- Whether something is so of all corners: the program. No condition. Whether a sight excludes an area: the pieces of the program. No condition. Whether a sight excludes an area: the program. No condition. Whether an empty look, or an angle, excludes an area: the program. No condition. Places of areas that are excluded do not agree: the plain law. No condition. -/
import Derived.Test.YtfniicgoeljmdaaGreatCorners
import Derived.Test.YtfniicgoeljmdaaGreatSame
import Derived.Laws.EntriesVeiled
import Derived.Test.YtfniicgoeljmdaaGreatAgree
namespace Go.Proofs.YtfniicgoeljmdaaGreat
open Go.RowKit Go.Shelf
attribute [local go_sem] Oper.semAt_some

theorem ownFrom_blk {β : Type} (B b : Nat) (T : TypeId) (f : β → Array Value) : OwnFrom B (fun s W => Blk W b T (f s)) := fun s X Y row hs hg hr => by
  refine (hg.block b hs.lt (fun e => ?_)).trans hs
  obtain ⟨_, o, ho, hc⟩ := hr b e.symm
  have hs' : X.heap[b]? = some (.cells (f s) T (0, 0)) := hs
  rw [hs'] at ho
  injection ho with ho
  rw [← ho] at hc
  cases hc
theorem ownFrom_ext {β : Type} {B : Nat} {w : World} (h : w.heap.size ≤ B) : OwnFrom B (fun (_ : β) W => Ext w W) := ownFrom_below (Nat.le_refl _) h

theorem Blk.put {W : World} {g : Nat} {t : TypeId} {cs : Array Value} {D : Nat} {o : Obj} (h : Blk W g t cs) (hne : g ≠ D) : Blk (W.putObj D o) g t cs := ((grownBy_putObj' W D o).block g h.lt (fun e => hne (by injection e))).trans h
theorem Ext.put {w W : World} {D : Nat} {o : Obj} (h : Ext w W) (hD : w.heap.size ≤ D) : Ext w (W.putObj D o) := grown_ext h (grownBy_putObj' W D o) fun k e => by injection e with e; omega

set_option maxRecDepth 100000 in
set_option maxHeartbeats 2000000 in
theorem all_c (xl xh yl yh : Int) (fid : Nat) (cap : Array Value) (p : Vec → Bool) (w : World)
    (hcall : ∀ (xs : Array Value) (W : World), (callFunc fid xs).run Tryz.prog W = .ok (.enter fid xs) W)
    (hf : ∀ v ∈ cornersL xl xh yl yh, ∀ W, Ext w W → Calls Tryz.prog fid (#[.agg #[.int .i64 v.x, .int .i64 v.y]] ++ cap) W fun e w' => e = .returned (.bool (p v)) ∧ Ext W w') :
    Calls Tryz.prog 179 #[.agg #[.int .i64 xl, .int .i64 xh, .int .i64 yl, .int .i64 yh], .func (.func fid) #[] cap] w fun e w' => e = .returned (.bool ((cornersL xl xh yl yh).all p)) ∧ Ext w w' := by
  have Hf := Lib.hid hf
  generalize hR : (cornersL xl xh yl yh).all p = R
  have HR := Lib.hid hR
  clear hf hR
  refine (callsIn_wide (n := 6)).1 (callsIn_of_wp_marks Tryz.func179 rfl trivial ?_)
  simp only [Tryz.ntmps179, List.size_toArray, List.length_cons, List.length_nil, Nat.reduceAdd, Nat.reduceSub, Array.replicate_succ, Array.replicate_zero, List.push_toArray, List.append_toArray, List.nil_append, List.cons_append]
  refine wpIn_wide.2 ?_
  go_wp2_with fail
  refine (corners_c _ _ _ _ _).mono ?_
  rintro e w1 ⟨rfl, rfl⟩
  go_wp2_with fail
  refine name_world _ ?_
  intro W0 hW0
  have b1 : Blk W0 (w.heap.size + 1) 158 #[.func (.func fid) #[] cap] := by rw [hW0]; exact ((Blk.newAt (by simp)).alloc _).alloc _
  have b2 : Blk W0 (w.heap.size + 1 + 1) 4 #[.bool false] := by rw [hW0]; exact (Blk.newAt (by simp)).alloc _
  have b3 : Blk W0 (w.heap.size + 1 + 1 + 1) 112 #[.int .i64 xl, .int .i64 xh, .int .i64 yl, .int .i64 yh] := by rw [hW0]; exact Blk.newAt (by simp)
  have e0 : Ext w W0 := by rw [hW0]; exact ext_by
  have hz0 : W0.heap.size = w.heap.size + 4 := by rw [hW0]; simp
  clear hW0
  refine wp_range_box (nb := w.heap.size) (corners_iter _ _ xl xh yl yh w.heap.size W0 b3) rfl Tryz.call216 (by omega) (fun _ => rfl)
    (fun pre W => ((∀ v ∈ pre, p v = true) ∧ Ext w W) ∧ Blk W (w.heap.size + 1) 158 #[.func (.func fid) #[] cap] ∧ Blk W (w.heap.size + 1 + 1) 4 #[.bool false])
    (fun c pre W => ((c = .ret ∧ ∃ v ∈ pre, p v = false) ∧ Ext w W) ∧ Blk W (w.heap.size + 1 + 1) 4 #[.bool false])
    (OwnFrom.and (OwnFrom.and (ownFrom_pure _ _) (ownFrom_ext (by omega))) (OwnFrom.and (ownFrom_blk _ _ _ _) (ownFrom_blk _ _ _ _)))
    (fun c => OwnFrom.and (OwnFrom.and (ownFrom_pure _ _) (ownFrom_ext (by omega))) (ownFrom_blk _ _ _ _))
    ⟨⟨by simp, e0⟩, b1, b2⟩
    (fun x b t => (t.setIfInBounds 8 (.agg #[.int .i64 x.x, .int .i64 x.y])).setIfInBounds 5 (.pointer (some ⟨b, 0, none⟩))) 85 (fun x => #[.int .i64 x.x, .int .i64 x.y]) ?assign ?body ?done ?stop
  case assign =>
    intro l n x W K hK
    simp only [List.setIfInBounds_toArray, List.set_cons_zero, List.set_cons_succ] at hK
    simp only [vecE]
    gi_wp2
    exact hK
  case body =>
    rintro l n pre x b W hx hb hBx hW ⟨⟨hp, he⟩, hb1, hb2⟩
    simp only [List.setIfInBounds_toArray, List.set_cons_zero, List.set_cons_succ]
    have hc1 := hb1.cell
    have hcx := hBx.cell
    have hl1 := hb1.lt
    have hlx := hBx.lt
    have hc2 := hb2.cell
    have hf2 := hb2.frozen
    have hl2 := hb2.lt
    have hfx := Hf.out x hx W he
    obtain ⟨v, hv⟩ : ∃ v, p x = v := ⟨_, rfl⟩
    rw [hv] at hfx
    have HFx := Lib.hid hfx
    have HV := Lib.hid hv
    have HB1 := Lib.hid hb1
    have HB2 := Lib.hid hb2
    have HP := Lib.hid hp
    have HE := Lib.hid he
    clear hb1 hb2 hBx hp hfx hv he
    gi_wp2
    refine ⟨trivial, ?_⟩
    refine ⟨fun h => (by cases h), (CallsIn.inRound l (callsIn_wide.2 HFx.out)).mono ?_⟩
    rintro e w' ⟨rfl, h1⟩
    have HB1' := Lib.hid (HB1.out.ext h1)
    have HB2' := Lib.hid (HB2.out.ext h1)
    have H1 := Lib.hid h1
    clear hc1 hcx hc2 hf2 h1
    have hc3 := HB2'.out.cell
    have hf3 := HB2'.out.frozen
    have hl3 := HB2'.out.lt
    cases v
    · gi_wp2
      exact ⟨((H1.out.keepsFrom _).trans ((KeepsOthers.setCell _ _ _).from _)), ⟨⟨⟨rfl, x, by simp, HV.out⟩, (HE.out.trans H1.out).set (by dsimp only; omega) _⟩, HB2'.out.set_ 0 _⟩⟩
    · gi_wp2
      refine ⟨H1.out.keepsFrom _, H1.out.kpX (by omega) _, ⟨?_, HE.out.trans H1.out⟩, HB1'.out, HB2'.out⟩
      intro q hq
      rcases List.mem_append.1 hq with hq | hq
      · exact HP.out q hq
      · simp at hq; subst hq; exact HV.out
  case done =>
    rintro D W hD ⟨⟨hp, he⟩, hb1, hb2⟩ hK
    have hc2 := hb2.cell
    have hf2 := hb2.frozen
    have hl2 := hb2.lt
    have hpa : (cornersL xl xh yl yh).all p = true := List.all_eq_true.2 hp
    have hne : w.heap.size + 1 + 1 ≠ D := by omega
    obtain rfl := HR.out.symm.trans hpa
    dsimp only
    go_wp2_with fail
    refine ⟨by simp, .inl ⟨_, _, rfl, run_takeDeferred (by rw [Below.heap_setCell _ _ _ _ (fun e => hne e.symm)]; exact hK), ?_⟩⟩
    have hB9 := (Blk.put (o := Obj.deferred none) (hb2.set_ 0 (.bool true)) hne).cell
    refine ⟨.bool true, ?_, rfl, Ext.put (he.set (by dsimp only; omega) _) (by omega)⟩
    simp only [results, Tryz.results179]
    go_simp
  case stop =>
    rintro D c pre W hD hpre ⟨⟨⟨rfl, v, hv, hpv⟩, he⟩, hb2⟩ hK
    have hpa : (cornersL xl xh yl yh).all p = false := by
      rw [List.all_eq_false]
      exact ⟨v, hpre.subset hv, by simp [hpv]⟩
    obtain rfl := HR.out.symm.trans hpa
    have hne : w.heap.size + 1 + 1 ≠ D := by omega
    dsimp only
    go_wp2_with fail
    refine ⟨by simp, .inl ⟨_, _, rfl, run_takeDeferred hK, ?_⟩⟩
    have hB9 := (Blk.put (o := Obj.deferred none) hb2 hne).cell
    refine ⟨.bool false, ?_, rfl, Ext.put he (by omega)⟩
    simp only [results, Tryz.results179]
    go_simp
end Go.Proofs.YtfniicgoeljmdaaGreat

namespace Go.Proofs.YtfniicgoeljmdaaGreat
open Go.RowKit Go.Shelf

def rightA (xl xh yl yh : Int) : Bool := decide (-33554432 ≤ xl) && decide (xl ≤ xh) && decide (xh ≤ 33554432) && decide (-33554432 ≤ yl) && decide (yl ≤ yh) && decide (yh ≤ 33554432)
theorem rightA_iff {xl xh yl yh : Int} : rightA xl xh yl yh = true ↔ -33554432 ≤ xl ∧ xl ≤ xh ∧ xh ≤ 33554432 ∧ -33554432 ≤ yl ∧ yl ≤ yh ∧ yh ≤ 33554432 := by
  simp only [rightA, Bool.and_eq_true, decide_eq_true_eq, and_assoc]
theorem corner_near {xl xh yl yh : Int} (h : rightA xl xh yl yh = true) : ∀ v ∈ cornersL xl xh yl yh, near ⟨v.x, v.y⟩ 33554432 = true := by
  have h := rightA_iff.1 h
  intro v hv
  simp only [cornersL, List.mem_cons, List.not_mem_nil, or_false] at hv
  rw [near_iff]
  rcases hv with rfl | rfl | rfl | rfl
  all_goals dsimp only
  all_goals omega
def nearM (n lo hi : Int) : Int := min (max n lo) hi

set_option maxRecDepth 4000 in
set_option maxHeartbeats 1000000 in
theorem right_c (xl xh yl yh : Int) (w : World) :
    Calls Tryz.prog 174 #[.agg #[.int .i64 xl, .int .i64 xh, .int .i64 yl, .int .i64 yh]] w fun e w' => e = .returned (.bool (rightA xl xh yl yh)) ∧ Ext w w' := by
  by_cases h : rightA xl xh yl yh = true
  · have h' := rightA_iff.1 h
    rw [h]
    obtain ⟨h1, h2, h3, h4, h5, h6⟩ := h'
    clear h
    go_enter Tryz.func174, Tryz.ntmps174
    go_wp2_with fail
    go_ret
    exact ⟨rfl, ext_by⟩
  · have h' : rightA xl xh yl yh = false := by simpa using h
    rw [h']
    have hn : ¬ (-33554432 ≤ xl ∧ xl ≤ xh ∧ xh ≤ 33554432 ∧ -33554432 ≤ yl ∧ yl ≤ yh ∧ yh ≤ 33554432) := fun q => h (rightA_iff.2 q)
    have Hn := Lib.hid hn
    clear h h' hn
    go_enter Tryz.func174, Tryz.ntmps174
    go_wp2_with fail
    all_goals go_ret
    all_goals refine ⟨ret_b ?_, ext_by⟩
    all_goals have hn := Hn.out
    all_goals first | rfl | (exfalso; simp at *; omega) | (simp; omega)

set_option maxHeartbeats 1000000 in
theorem nearest_c (lo hi n : Int) (w : World) :
    Calls Tryz.prog 177 #[.agg #[.int .i64 lo, .int .i64 hi], .int .i64 n] w fun e w' => e = .returned (.int .i64 (nearM n lo hi)) ∧ Ext w w' := by
  unfold nearM
  go_enter Tryz.func177, Tryz.ntmps177
  go_wp2_with fail
  all_goals go_ret
  all_goals refine ⟨ret_i ?_, ext_by⟩
  all_goals omega

set_option maxRecDepth 4000 in
set_option maxHeartbeats 1000000 in
theorem excl1_c (fx fy lo hi x y : Int) (b : Nat) (w : World) (hb : ∃ t, Blk w b t #[.int .i64 fx, .int .i64 fy, .int .i64 lo, .int .i64 hi]) (h1 : -68157440 ≤ x - fx ∧ x - fx ≤ 68157440) (h2 : -68157440 ≤ y - fy ∧ y - fy ≤ 68157440) (hlo : -134217728 ≤ lo ∧ lo ≤ 134217728) :
    Calls Tryz.prog 180 #[.agg #[.int .i64 x, .int .i64 y], .pointer (some ⟨b, 0, none⟩)] w fun e w' => e = .returned (.bool (decide (distD x y fx fy < lo * lo))) ∧ Ext w w' := by
  obtain ⟨t, hb⟩ := hb
  have hc := hb.cell
  have hl := hb.lt
  have HD := Lib.hid fun W => distance_c x y fx fy W h1 h2
  obtain ⟨q1, q2⟩ := mul_bd hlo hlo
  generalize distD x y fx fy = D at *
  clear hb h1 h2 hlo
  go_enter Tryz.func180, Tryz.ntmps180
  go_wp2_with fail
  refine wp_region_text (by kernel_rfl) (by kernel_rfl) ?_
  repeat' (first | (refine bl_off (by rfl) ?_; simp only [putX]) | (apply bl_op; rfl; (intro w1 h1; obtain ⟨hc, hf, hz⟩ := bcell h1; go_simp; (try go_bits); (first | exact ⟨rfl, Ext.refl _⟩ | (apply gives_call; first | (go_at_call 178; exact HD.out _)) | (go_invoke; go_simp; apply gives_call; first | (go_at_call 178; exact HD.out _)))); simp only [putX]) | (refine bl_split rfl rfl (fun hx => ?_) (fun hx => ?_) <;> simp only [hx]))
  refine bl_nil ?_
  intro w2 h2
  go_wp2_with fail
  go_ret
  exact ⟨rfl, ext_by⟩

set_option maxRecDepth 4000 in
set_option maxHeartbeats 1000000 in
theorem excl2_c (fx fy dx dy lo hi far x y : Int) (b : Nat) (w : World) (hb : ∃ t, Blk w b t #[.int .i64 fx, .int .i64 fy, .int .i64 dx, .int .i64 dy, .int .i64 lo, .int .i64 hi, .int .i64 far])
    (h : CB fx fy dx dy x y) (hlo : -1000000 ≤ lo ∧ lo ≤ 1000000) (hhi : -1000000 ≤ hi ∧ hi ≤ 1000000) (hfar : -134217728 ≤ far ∧ far ≤ 134217728) :
    Calls Tryz.prog 181 #[.agg #[.int .i64 x, .int .i64 y], .pointer (some ⟨b, 0, none⟩)] w fun e w' => e = .returned (.bool (inB fx fy dx dy lo hi x y && decide (distD x y fx fy ≤ far * far))) ∧ Ext w w' := by
  obtain ⟨t, hb⟩ := hb
  have hc := hb.cell
  have hl := hb.lt
  obtain ⟨q1, q2⟩ := mul_bd hfar hfar
  have HT := Lib.hid fun W => has_c fx fy dx dy lo hi x y W h hlo hhi
  have HD := Lib.hid fun W => distance_c x y fx fy W (by have := h.x; have := h.fx; omega) (by have := h.y; have := h.fy; omega)
  generalize inB fx fy dx dy lo hi x y = B at *
  generalize distD x y fx fy = D at *
  clear hb h hlo hhi hfar
  go_enter Tryz.func181, Tryz.ntmps181
  go_wp2_with fail
  refine wp_region_text (by kernel_rfl) (by kernel_rfl) ?_
  repeat' (first | (refine bl_off (by rfl) ?_; simp only [putX]) | (apply bl_op; rfl; (intro w1 h1; obtain ⟨hc, hf, hz⟩ := bcell h1; go_simp; (try go_bits); (first | exact ⟨rfl, Ext.refl _⟩ | (apply gives_call; first | (go_at_call 182; exact HT.out _) | (go_at_call 178; exact HD.out _)) | (go_invoke; go_simp; apply gives_call; first | (go_at_call 182; exact HT.out _) | (go_at_call 178; exact HD.out _)))); simp only [putX]) | (refine bl_split rfl rfl (fun hx => ?_) (fun hx => ?_) <;> simp only [hx]))
  all_goals refine bl_nil ?_
  all_goals intro w2 h2
  all_goals go_wp2_with fail
  all_goals go_ret
  all_goals refine ⟨?_, ext_by⟩
  all_goals simp_all
end Go.Proofs.YtfniicgoeljmdaaGreat

namespace Go.Proofs.YtfniicgoeljmdaaGreat
open Go.RowKit Go.Shelf
attribute [local go_sem] Oper.semAt_some

def exclM (s : Sky) (x : Sight) (L : List Vec) (near : Vec) : Bool :=
  if x.kind = 2 then decide (x.hi * x.hi < distD near.x near.y (orig s x).x (orig s x).y) || L.all fun p => decide (distD p.x p.y (orig s x).x (orig s x).y < x.lo * x.lo)
  else if x.kind = 1 then (L.all fun p => behindB (orig s x).x (orig s x).y x.dx x.dy p.x p.y) || (L.all fun p => belowB (orig s x).x (orig s x).y x.dx x.dy (biasLo s x) p.x p.y) || (L.all fun p => aboveB (orig s x).x (orig s x).y x.dx x.dy (biasHi s x) p.x p.y)
  else L.all fun p => inB (orig s x).x (orig s x).y x.dx x.dy (biasLo s x) (biasHi s x) p.x p.y && decide (distD p.x p.y (orig s x).x (orig s x).y ≤ x.hi * x.hi)
def nearestP (s : Sky) (x : Sight) (xl xh yl yh : Int) : Vec := ⟨nearM (orig s x).x xl xh, nearM (orig s x).y yl yh⟩
def exclAll (s : Sky) (x : Sight) (xl xh yl yh : Int) : Bool := decide (sightErr2 s x = 0) && rightA xl xh yl yh && exclM s x (cornersL xl xh yl yh) (nearestP s x xl xh yl yh)

set_option maxRecDepth 4000 in
set_option maxHeartbeats 2000000 in
theorem Excludes_no (A1 : Option Addr) (n1 c1 : Nat) (home : Int) (A2 : Option Addr) (n2 c2 : Nat) (A3 : Option Addr) (n3 c3 : Nat) (s : Sky) (kind st cat tick dx dy er lo hi : Int) (xl xh yl yh : Int) (w : World) (hs : IsSky w A1 n1 home A2 n2 A3 n3 s) (hno : (decide (sightErr2 s ⟨kind, st, cat, tick, dx, dy, er, lo, hi⟩ = 0) && rightA xl xh yl yh) = false) :
    Calls Tryz.prog 141 #[.agg #[.slice A1 n1 c1, .int .i64 home, .slice A2 n2 c2, .slice A3 n3 c3], .agg #[.int .i64 kind, .int .i64 st, .int .i64 cat, .int .i64 tick, .int .i64 dx, .int .i64 dy, .int .i64 er, .int .i64 lo, .int .i64 hi], .agg #[.int .i64 xl, .int .i64 xh, .int .i64 yl, .int .i64 yh]] w fun e w' => e = .returned (.bool false) ∧ Ext w w' := by
  have HC := Lib.hid fun W (hW : Ext w W) => CheckSight_c A1 n1 c1 home A2 n2 c2 A3 n3 c3 s kind st cat tick dx dy er lo hi W (hs.ext hW)
  by_cases h0 : sightErr2 s ⟨kind, st, cat, tick, dx, dy, er, lo, hi⟩ = 0
  · have hr : rightA xl xh yl yh = false := by simpa [h0] using hno
    have HR := Lib.hid fun W => right_c xl xh yl yh W
    rw [hr] at HR
    rw [h0] at HC
    clear h0 hno hr hs
    go_enter Tryz.func141, Tryz.ntmps141
    go_wp2_with fail
    refine (HC.out _ ext_by).mono ?_
    rintro e w1 ⟨rfl, h1⟩; obtain ⟨hc_w1, hf_w1, hz_w1⟩ := bcell h1; (try simp only [szA] at hz_w1); have : w.heap.size < w1.heap.size := (by omega); have : w.heap.size + 1 < w1.heap.size := (by omega); have : w.heap.size + 2 < w1.heap.size := (by omega)
    go_wp2_with fail
    refine (HR.out _).mono ?_
    rintro e w2 ⟨rfl, h2⟩; obtain ⟨hc_w2, hf_w2, hz_w2⟩ := bcell h2; (try simp only [szA] at hz_w2); have : w.heap.size < w2.heap.size := (by omega); have : w.heap.size + 1 < w2.heap.size := (by omega); have : w.heap.size + 2 < w2.heap.size := (by omega)
    go_wp2_with fail
    go_ret
    exact ⟨rfl, ext_by⟩
  · have h0' : (sightErr2 s ⟨kind, st, cat, tick, dx, dy, er, lo, hi⟩ != 0) = true := by simpa using h0
    generalize sightErr2 s ⟨kind, st, cat, tick, dx, dy, er, lo, hi⟩ = E at *
    clear h0 hno hs
    go_enter Tryz.func141, Tryz.ntmps141
    go_wp2_with fail
    refine (HC.out _ ext_by).mono ?_
    rintro e w1 ⟨rfl, h1⟩; obtain ⟨hc_w1, hf_w1, hz_w1⟩ := bcell h1; (try simp only [szA] at hz_w1); have : w.heap.size < w1.heap.size := (by omega); have : w.heap.size + 1 < w1.heap.size := (by omega); have : w.heap.size + 2 < w1.heap.size := (by omega)
    go_wp2_with fail
    go_ret
    exact ⟨rfl, ext_by⟩

set_option maxRecDepth 8000 in
set_option maxHeartbeats 4000000 in
theorem Excludes_two (A1 : Option Addr) (n1 c1 : Nat) (home : Int) (A2 : Option Addr) (n2 c2 : Nat) (A3 : Option Addr) (n3 c3 : Nat) (s : Sky) (kind st cat tick dx dy er lo hi : Int) (xl xh yl yh : Int) (w : World) (hs : IsSky w A1 n1 home A2 n2 A3 n3 s) (h0 : sightErr2 s ⟨kind, st, cat, tick, dx, dy, er, lo, hi⟩ = 0) (hr : rightA xl xh yl yh = true) (hk : kind = 2) :
    Calls Tryz.prog 141 #[.agg #[.slice A1 n1 c1, .int .i64 home, .slice A2 n2 c2, .slice A3 n3 c3], .agg #[.int .i64 kind, .int .i64 st, .int .i64 cat, .int .i64 tick, .int .i64 dx, .int .i64 dy, .int .i64 er, .int .i64 lo, .int .i64 hi], .agg #[.int .i64 xl, .int .i64 xh, .int .i64 yl, .int .i64 yh]] w fun e w' =>
      e = .returned (.bool (exclM s ⟨kind, st, cat, tick, dx, dy, er, lo, hi⟩ (cornersL xl xh yl yh) (nearestP s ⟨kind, st, cat, tick, dx, dy, er, lo, hi⟩ xl xh yl yh))) ∧ Ext w w' := by
  have HC := Lib.hid fun W (hW : Ext w W) => CheckSight_c A1 n1 c1 home A2 n2 c2 A3 n3 c3 s kind st cat tick dx dy er lo hi W (hs.ext hW)
  have HR := Lib.hid fun W => right_c xl xh yl yh W
  have hv := sight_ok h0
  have HL := Lib.hid fun W (hW : Ext w W) => lookOf_c A1 n1 c1 home A2 n2 c2 A3 n3 c3 s kind st cat tick dx dy er lo hi W (hs.ext hW) hv
  rw [h0] at HC
  rw [hr] at HR
  rw [lookV, if_pos hk] at HL
  unfold exclM nearestP
  rw [if_pos hk]
  dsimp only at HL ⊢
  have hob := hv.orig_bd
  obtain ⟨r1, r2, r3⟩ := hv.reach hk
  have ha := rightA_iff.1 hr
  have hcn := corner_near hr
  dsimp only at r1 r2 r3
  generalize orig s ⟨kind, st, cat, tick, dx, dy, er, lo, hi⟩ = o at *
  obtain ⟨fx, fy⟩ := o
  dsimp only at *
  have hnx : -33554432 ≤ nearM fx xl xh ∧ nearM fx xl xh ≤ 33554432 := by unfold nearM; omega
  have hny : -33554432 ≤ nearM fy yl yh ∧ nearM fy yl yh ≤ 33554432 := by unfold nearM; omega
  have HD := Lib.hid fun W => distance_c (nearM fx xl xh) (nearM fy yl yh) fx fy W (by omega) (by omega)
  have HE := Lib.hid fun (b : Nat) (v : Vec) (hvm : v ∈ cornersL xl xh yl yh) W (hb : ∃ t, Blk W b t #[.int .i64 fx, .int .i64 fy, .int .i64 lo, .int .i64 hi]) =>
    excl1_c fx fy lo hi v.x v.y b W hb (by have := (near_iff _ _).1 (hcn v hvm); dsimp only at this; omega) (by have := (near_iff _ _).1 (hcn v hvm); dsimp only at this; omega) (by omega)
  have HA := Lib.hid fun (b : Nat) W (hb : ∃ t, Blk W b t #[.int .i64 fx, .int .i64 fy, .int .i64 lo, .int .i64 hi]) => all_c xl xh yl yh 180 #[.pointer (some ⟨b, 0, none⟩)] (fun p => decide (distD p.x p.y fx fy < lo * lo)) W Tryz.call180
    (fun v hvm W2 hW2 => HE.out b v hvm W2 (hb.imp fun t h => h.ext hW2))
  obtain ⟨q1, q2⟩ := mul_bd (a := hi) (b := hi) (A := 134217728) (B := 134217728) (by omega) (by omega)
  generalize distD (nearM fx xl xh) (nearM fy yl yh) fx fy = D at *
  generalize ((cornersL xl xh yl yh).all fun p => decide (distD p.x p.y fx fy < lo * lo)) = G at *
  have t1 : ∀ W, (Instr.typeAssert (.iface 183 (.agg #[.int .i64 fx, .int .i64 fy, .int .i64 lo, .int .i64 hi])) 156 187 true).run Tryz.prog W = .ok (.tuple #[.agg #[.int .i64 0, .int .i64 0, .int .i64 0, .int .i64 0, .int .i64 0, .int .i64 0], .bool false]) W := fun _ => by kernel_rfl
  have t2 : ∀ W, (Instr.typeAssert (.iface 183 (.agg #[.int .i64 fx, .int .i64 fy, .int .i64 lo, .int .i64 hi])) 156 183 true).run Tryz.prog W = .ok (.tuple #[.agg #[.int .i64 fx, .int .i64 fy, .int .i64 lo, .int .i64 hi], .bool true]) W := fun _ => by kernel_rfl
  clear HE hcn hs h0 hr hk hv hob ha hnx hny r1 r2 r3
  go_enter Tryz.func141, Tryz.ntmps141
  go_wp2_with fail
  refine (HC.out _ ext_by).mono ?_
  rintro e w1 ⟨rfl, h1⟩; obtain ⟨hc_w1, hf_w1, hz_w1⟩ := bcell h1; (try simp only [szA] at hz_w1); have : w.heap.size < w1.heap.size := (by omega); have : w.heap.size + 1 < w1.heap.size := (by omega); have : w.heap.size + 2 < w1.heap.size := (by omega)
  go_wp2_with fail
  refine (HR.out _).mono ?_
  rintro e w2 ⟨rfl, h2⟩; obtain ⟨hc_w2, hf_w2, hz_w2⟩ := bcell h2; (try simp only [szA] at hz_w2); have : w.heap.size < w2.heap.size := (by omega); have : w.heap.size + 1 < w2.heap.size := (by omega); have : w.heap.size + 2 < w2.heap.size := (by omega)
  go_wp2_with fail
  refine (HL.out _ ext_by).mono ?_
  rintro e w3 ⟨rfl, h3⟩; obtain ⟨hc_w3, hf_w3, hz_w3⟩ := bcell h3; (try simp only [szA] at hz_w3); have : w.heap.size < w3.heap.size := (by omega); have : w.heap.size + 1 < w3.heap.size := (by omega); have : w.heap.size + 2 < w3.heap.size := (by omega)
  go_wp2_with fail
  refine wp_region_tail 13 (Ext _) (Ext _) (Stable.ext _) (fun _ h => h) (Ext.drew (Ext.refl _)) (by kernel_rfl) (by kernel_rfl) ?_
  repeat' (first | (refine bl_off (by rfl) ?_; simp only [putX]) | (apply bl_op; rfl; (intro w1 h1; obtain ⟨hc, hf, hz⟩ := bcell h1; go_simp; (try go_bits); (first | exact ⟨rfl, Ext.refl _⟩ | (apply gives_call; go_at_call 177; exact nearest_c _ _ _ _) | (go_invoke; go_simp; apply gives_call; go_at_call 177; exact nearest_c _ _ _ _))); simp only [putX]) | (refine bl_split rfl rfl (fun hx => ?_) (fun hx => ?_) <;> simp only [hx]))
  refine bl_nil ?_; refine tw_alloc (e := 85) (zs := #[.int .i64 0, .int .i64 0]) rfl (fun w => by go_simp) (fun b hb => ?_); simp only [putX]; refine tw_store (vs := #[.int .i64 (nearM fx xl xh), .int .i64 (nearM fy yl yh)]) rfl rfl (fun w2 h2 hB => ?_) ?_; (focus (have hcB := hB.cell; have hfB := hB.frozen; exact ⟨_, (by go_simp), (Ext.set (Ext.set h2 (by dsimp only; omega) _) (by dsimp only; omega) _), ((hB.set_ 0 _).set_ 1 _)⟩)); refine tw_nil ?_; rintro w4 ⟨h_w4, hB_w4⟩; have hcB_w4 := hB_w4.cell; have hfB_w4 := hB_w4.frozen
  obtain ⟨hc_w4, hf_w4, hz_w4⟩ := bcell h_w4; (try simp only [szA] at hz_w4); have : w.heap.size < w4.heap.size := (by omega); have : w.heap.size + 1 < w4.heap.size := (by omega); have : w.heap.size + 2 < w4.heap.size := (by omega)
  have hb4 := hB_w4.lt
  have hlt4 : w3.heap.size < w4.heap.size := by omega
  have HBx := Lib.hid (show Blk w4 w3.heap.size 183 #[.int .i64 fx, .int .i64 fy, .int .i64 lo, .int .i64 hi] from (Blk.newAt rfl).ext h_w4)
  go_wp2_with fail
  refine wp_region_text (by kernel_rfl) (by kernel_rfl) ?_
  by_cases hd : hi * hi < D
  · have hd' : decide (hi * hi < D) = true := by simpa using hd
    repeat' (first | (refine bl_off (by rfl) ?_; simp only [putX]) | (apply bl_op; rfl; (intro w1 h1; obtain ⟨hc, hf, hz⟩ := bcell h1; go_simp; (try go_bits); (first | exact ⟨rfl, Ext.refl _⟩ | (apply gives_call; first | (go_at_call 178; exact HD.out _)) | (go_invoke; go_simp; apply gives_call; first | (go_at_call 178; exact HD.out _)))); simp only [putX]) | (refine bl_split rfl rfl (fun hx => ?_) (fun hx => ?_) <;> simp only [hx]))
    refine bl_nil ?_
    intro w5 h5
    go_wp2_with fail
    go_ret
    exact ⟨ret_b (by first | (simp; done) | simp [hd]), ext_by⟩
  · have hd' : decide (hi * hi < D) = false := by simpa using hd
    repeat' (first | (refine bl_off (by rfl) ?_; simp only [putX]) | (apply bl_op; rfl; (intro w1 h1; obtain ⟨hc, hf, hz⟩ := bcell h1; go_simp; (try go_bits); (first | exact ⟨rfl, Ext.refl _⟩ | (apply gives_call; first | (go_at_call 178; exact HD.out _) | (go_at_call 179; exact HA.out _ _ ⟨_, HBx.out.ext (by assumption)⟩)) | (go_invoke; go_simp; apply gives_call; first | (go_at_call 178; exact HD.out _) | (go_at_call 179; exact HA.out _ _ ⟨_, HBx.out.ext (by assumption)⟩)))); simp only [putX]) | (refine bl_split rfl rfl (fun hx => ?_) (fun hx => ?_) <;> simp only [hx]))
    refine bl_nil ?_
    intro w5 h5
    go_wp2_with fail
    go_ret
    exact ⟨ret_b (by first | (simp; done) | simp [hd]), ext_by⟩
end Go.Proofs.YtfniicgoeljmdaaGreat

namespace Go.Proofs.YtfniicgoeljmdaaGreat
open Go.RowKit Go.Shelf
attribute [local go_sem] Oper.semAt_some

set_option maxRecDepth 8000 in
set_option maxHeartbeats 2000000 in
theorem Excludes_three (A1 : Option Addr) (n1 c1 : Nat) (home : Int) (A2 : Option Addr) (n2 c2 : Nat) (A3 : Option Addr) (n3 c3 : Nat) (s : Sky) (kind st cat tick dx dy er lo hi : Int) (xl xh yl yh : Int) (w : World) (hs : IsSky w A1 n1 home A2 n2 A3 n3 s) (h0 : sightErr2 s ⟨kind, st, cat, tick, dx, dy, er, lo, hi⟩ = 0) (hr : rightA xl xh yl yh = true) (hk : kind = 3) :
    Calls Tryz.prog 141 #[.agg #[.slice A1 n1 c1, .int .i64 home, .slice A2 n2 c2, .slice A3 n3 c3], .agg #[.int .i64 kind, .int .i64 st, .int .i64 cat, .int .i64 tick, .int .i64 dx, .int .i64 dy, .int .i64 er, .int .i64 lo, .int .i64 hi], .agg #[.int .i64 xl, .int .i64 xh, .int .i64 yl, .int .i64 yh]] w fun e w' =>
      e = .returned (.bool (exclM s ⟨kind, st, cat, tick, dx, dy, er, lo, hi⟩ (cornersL xl xh yl yh) (nearestP s ⟨kind, st, cat, tick, dx, dy, er, lo, hi⟩ xl xh yl yh))) ∧ Ext w w' := by
  have HC := Lib.hid fun W (hW : Ext w W) => CheckSight_c A1 n1 c1 home A2 n2 c2 A3 n3 c3 s kind st cat tick dx dy er lo hi W (hs.ext hW)
  have HR := Lib.hid fun W => right_c xl xh yl yh W
  have hv := sight_ok h0
  have HL := Lib.hid fun W (hW : Ext w W) => lookOf_c A1 n1 c1 home A2 n2 c2 A3 n3 c3 s kind st cat tick dx dy er lo hi W (hs.ext hW) hv
  have hk2 : kind ≠ 2 := by omega
  have hk1 : kind ≠ 1 := by omega
  rw [h0] at HC
  rw [hr] at HR
  rw [lookV, if_neg hk2, if_neg hk1] at HL
  unfold exclM
  rw [if_neg hk2, if_neg hk1]
  have hcn := corner_near hr
  have hcb := fun (v : Vec) (hvm : v ∈ cornersL xl xh yl yh) => hv.cb hk2 (hcn v hvm)
  obtain ⟨f1, f2⟩ := hv.far hk
  have hbb := hv.bias_bd hk2
  dsimp only at *
  generalize orig s ⟨kind, st, cat, tick, dx, dy, er, lo, hi⟩ = o at *
  obtain ⟨fx, fy⟩ := o
  dsimp only at *
  generalize biasLo s ⟨kind, st, cat, tick, dx, dy, er, lo, hi⟩ = bl at *
  generalize biasHi s ⟨kind, st, cat, tick, dx, dy, er, lo, hi⟩ = bh at *
  have HE := Lib.hid fun (b : Nat) (v : Vec) (hvm : v ∈ cornersL xl xh yl yh) W (hb : ∃ t, Blk W b t #[.int .i64 fx, .int .i64 fy, .int .i64 dx, .int .i64 dy, .int .i64 bl, .int .i64 bh, .int .i64 hi]) =>
    excl2_c fx fy dx dy bl bh hi v.x v.y b W hb (hcb v hvm) hbb.1 hbb.2 (by omega)
  have HA := Lib.hid fun (b : Nat) W (hb : ∃ t, Blk W b t #[.int .i64 fx, .int .i64 fy, .int .i64 dx, .int .i64 dy, .int .i64 bl, .int .i64 bh, .int .i64 hi]) => all_c xl xh yl yh 181 #[.pointer (some ⟨b, 0, none⟩)] (fun p => inB fx fy dx dy bl bh p.x p.y && decide (distD p.x p.y fx fy ≤ hi * hi)) W Tryz.call181
    (fun v hvm W2 hW2 => HE.out b v hvm W2 (hb.imp fun t h => h.ext hW2))
  have t1 : ∀ W, (Instr.typeAssert (.iface 189 (.agg #[.int .i64 fx, .int .i64 fy, .int .i64 dx, .int .i64 dy, .int .i64 bl, .int .i64 bh, .int .i64 hi])) 156 187 true).run Tryz.prog W = .ok (.tuple #[.agg #[.int .i64 0, .int .i64 0, .int .i64 0, .int .i64 0, .int .i64 0, .int .i64 0], .bool false]) W := fun _ => by kernel_rfl
  have t2 : ∀ W, (Instr.typeAssert (.iface 189 (.agg #[.int .i64 fx, .int .i64 fy, .int .i64 dx, .int .i64 dy, .int .i64 bl, .int .i64 bh, .int .i64 hi])) 156 183 true).run Tryz.prog W = .ok (.tuple #[.agg #[.int .i64 0, .int .i64 0, .int .i64 0, .int .i64 0], .bool false]) W := fun _ => by kernel_rfl
  have t3 : ∀ W, (Instr.typeAssert (.iface 189 (.agg #[.int .i64 fx, .int .i64 fy, .int .i64 dx, .int .i64 dy, .int .i64 bl, .int .i64 bh, .int .i64 hi])) 156 189 true).run Tryz.prog W = .ok (.tuple #[.agg #[.int .i64 fx, .int .i64 fy, .int .i64 dx, .int .i64 dy, .int .i64 bl, .int .i64 bh, .int .i64 hi], .bool true]) W := fun _ => by kernel_rfl
  generalize ((cornersL xl xh yl yh).all fun p => inB fx fy dx dy bl bh p.x p.y && decide (distD p.x p.y fx fy ≤ hi * hi)) = G at *
  clear HE hcn hcb hs h0 hr hk hk1 hk2 hv f1 f2 hbb
  go_enter Tryz.func141, Tryz.ntmps141
  go_wp2_with fail
  refine (HC.out _ ext_by).mono ?_
  rintro e w1 ⟨rfl, h1⟩; obtain ⟨hc_w1, hf_w1, hz_w1⟩ := bcell h1; (try simp only [szA] at hz_w1); have : w.heap.size < w1.heap.size := (by omega); have : w.heap.size + 1 < w1.heap.size := (by omega); have : w.heap.size + 2 < w1.heap.size := (by omega)
  go_wp2_with fail
  refine (HR.out _).mono ?_
  rintro e w2 ⟨rfl, h2⟩; obtain ⟨hc_w2, hf_w2, hz_w2⟩ := bcell h2; (try simp only [szA] at hz_w2); have : w.heap.size < w2.heap.size := (by omega); have : w.heap.size + 1 < w2.heap.size := (by omega); have : w.heap.size + 2 < w2.heap.size := (by omega)
  go_wp2_with fail
  refine (HL.out _ ext_by).mono ?_
  rintro e w3 ⟨rfl, h3⟩; obtain ⟨hc_w3, hf_w3, hz_w3⟩ := bcell h3; (try simp only [szA] at hz_w3); have : w.heap.size < w3.heap.size := (by omega); have : w.heap.size + 1 < w3.heap.size := (by omega); have : w.heap.size + 2 < w3.heap.size := (by omega)
  go_wp2_with fail
  refine (HA.out w3.heap.size _ ⟨_, Blk.newAt rfl⟩).mono ?_
  rintro e w4 ⟨rfl, h4⟩; obtain ⟨hc_w4, hf_w4, hz_w4⟩ := bcell h4; (try simp only [szA] at hz_w4); have : w.heap.size < w4.heap.size := (by omega); have : w.heap.size + 1 < w4.heap.size := (by omega); have : w.heap.size + 2 < w4.heap.size := (by omega)
  go_wp2_with fail
  go_ret
  exact ⟨rfl, ext_by⟩

set_option maxRecDepth 100000 in
set_option maxHeartbeats 4000000 in
theorem Excludes_one (A1 : Option Addr) (n1 c1 : Nat) (home : Int) (A2 : Option Addr) (n2 c2 : Nat) (A3 : Option Addr) (n3 c3 : Nat) (s : Sky) (kind st cat tick dx dy er lo hi : Int) (xl xh yl yh : Int) (w : World) (hs : IsSky w A1 n1 home A2 n2 A3 n3 s) (h0 : sightErr2 s ⟨kind, st, cat, tick, dx, dy, er, lo, hi⟩ = 0) (hr : rightA xl xh yl yh = true) (hk : kind = 1) :
    Calls Tryz.prog 141 #[.agg #[.slice A1 n1 c1, .int .i64 home, .slice A2 n2 c2, .slice A3 n3 c3], .agg #[.int .i64 kind, .int .i64 st, .int .i64 cat, .int .i64 tick, .int .i64 dx, .int .i64 dy, .int .i64 er, .int .i64 lo, .int .i64 hi], .agg #[.int .i64 xl, .int .i64 xh, .int .i64 yl, .int .i64 yh]] w fun e w' =>
      e = .returned (.bool (exclM s ⟨kind, st, cat, tick, dx, dy, er, lo, hi⟩ (cornersL xl xh yl yh) (nearestP s ⟨kind, st, cat, tick, dx, dy, er, lo, hi⟩ xl xh yl yh))) ∧ Ext w w' := by
  have HC := Lib.hid fun W (hW : Ext w W) => CheckSight_c A1 n1 c1 home A2 n2 c2 A3 n3 c3 s kind st cat tick dx dy er lo hi W (hs.ext hW)
  have HR := Lib.hid fun W => right_c xl xh yl yh W
  have hv := sight_ok h0
  have HL := Lib.hid fun W (hW : Ext w W) => lookOf_c A1 n1 c1 home A2 n2 c2 A3 n3 c3 s kind st cat tick dx dy er lo hi W (hs.ext hW) hv
  have hk2 : kind ≠ 2 := by omega
  rw [h0] at HC
  rw [hr] at HR
  rw [lookV, if_neg hk2, if_pos hk] at HL
  generalize hG : exclM s ⟨kind, st, cat, tick, dx, dy, er, lo, hi⟩ (cornersL xl xh yl yh) (nearestP s ⟨kind, st, cat, tick, dx, dy, er, lo, hi⟩ xl xh yl yh) = G
  unfold exclM at hG
  rw [if_neg hk2, if_pos hk] at hG
  have hcn := corner_near hr
  have hcb := fun (v : Vec) (hvm : v ∈ cornersL xl xh yl yh) => hv.cb hk2 (hcn v hvm)
  have hbb := hv.bias_bd hk2
  dsimp only at *
  generalize orig s ⟨kind, st, cat, tick, dx, dy, er, lo, hi⟩ = o at *
  obtain ⟨fx, fy⟩ := o
  dsimp only at *
  generalize biasLo s ⟨kind, st, cat, tick, dx, dy, er, lo, hi⟩ = bl at *
  generalize biasHi s ⟨kind, st, cat, tick, dx, dy, er, lo, hi⟩ = bh at *
  have HS := Lib.hid fun (v : Vec) (hvm : v ∈ cornersL xl xh yl yh) W => sides_c fx fy dx dy bl bh v.x v.y W (hcb v hvm) hbb.1 hbb.2
  have t1 : ∀ W, (Instr.typeAssert (.iface 187 (.agg #[.int .i64 fx, .int .i64 fy, .int .i64 dx, .int .i64 dy, .int .i64 bl, .int .i64 bh])) 156 187 true).run Tryz.prog W = .ok (.tuple #[.agg #[.int .i64 fx, .int .i64 fy, .int .i64 dx, .int .i64 dy, .int .i64 bl, .int .i64 bh], .bool true]) W := fun _ => by kernel_rfl
  have HG := Lib.hid hG
  clear hcn hcb hs h0 hr hk hk2 hv hbb hG
  refine (callsIn_wide (n := 6)).1 (callsIn_of_wp_marks Tryz.func141 rfl trivial ?_)
  simp only [Tryz.ntmps141, List.size_toArray, List.length_cons, List.length_nil, Nat.reduceAdd, Nat.reduceSub, Array.replicate_succ, Array.replicate_zero, List.push_toArray, List.append_toArray, List.nil_append, List.cons_append]
  refine wpIn_wide.2 ?_
  go_wp2_with fail
  refine (HC.out _ ext_by).mono ?_
  rintro e w1 ⟨rfl, h1⟩; obtain ⟨hc_w1, hf_w1, hz_w1⟩ := bcell h1; (try simp only [szA] at hz_w1); have : w.heap.size < w1.heap.size := (by omega); have : w.heap.size + 1 < w1.heap.size := (by omega); have : w.heap.size + 2 < w1.heap.size := (by omega)
  go_wp2_with fail
  refine (HR.out _).mono ?_
  rintro e w2 ⟨rfl, h2⟩; obtain ⟨hc_w2, hf_w2, hz_w2⟩ := bcell h2; (try simp only [szA] at hz_w2); have : w.heap.size < w2.heap.size := (by omega); have : w.heap.size + 1 < w2.heap.size := (by omega); have : w.heap.size + 2 < w2.heap.size := (by omega)
  go_wp2_with fail
  refine (HL.out _ ext_by).mono ?_
  rintro e w3 ⟨rfl, h3⟩; obtain ⟨hc_w3, hf_w3, hz_w3⟩ := bcell h3; (try simp only [szA] at hz_w3); have : w.heap.size < w3.heap.size := (by omega); have : w.heap.size + 1 < w3.heap.size := (by omega); have : w.heap.size + 2 < w3.heap.size := (by omega)
  have e3 : Ext w w3 := ext_by
  go_wp2_with fail
  refine (corners_c _ _ _ _ _).mono ?_
  rintro e w4 ⟨rfl, rfl⟩
  go_wp2_with fail
  refine name_world _ ?_
  intro W0 hW0
  have b7 : Blk W0 w3.heap.size 187 #[.int .i64 fx, .int .i64 fy, .int .i64 dx, .int .i64 dy, .int .i64 bl, .int .i64 bh] := by rw [hW0]; exact (((Blk.newAt rfl).alloc _).alloc _).alloc _ |>.alloc _
  have b8 : Blk W0 (w3.heap.size + 1) 4 #[.bool true] := by rw [hW0]; exact ((Blk.newAt (by simp)).alloc _).alloc _ |>.alloc _
  have b9 : Blk W0 (w3.heap.size + 1 + 1) 4 #[.bool true] := by rw [hW0]; exact (Blk.newAt (by simp)).alloc _ |>.alloc _
  have b10 : Blk W0 (w3.heap.size + 1 + 1 + 1) 4 #[.bool true] := by rw [hW0]; exact (Blk.newAt (by simp)).alloc _
  have b11 : Blk W0 (w3.heap.size + 1 + 1 + 1 + 1) 112 #[.int .i64 xl, .int .i64 xh, .int .i64 yl, .int .i64 yh] := by rw [hW0]; exact Blk.newAt (by simp)
  have e0 : Ext w W0 := by rw [hW0]; exact ext_by
  have hz0 : W0.heap.size = w3.heap.size + 5 := by rw [hW0]; simp
  clear hW0
  refine wp_range_box (nb := w.heap.size) (corners_iter _ _ xl xh yl yh w.heap.size W0 b11) rfl Tryz.call216 (by omega) (fun _ => rfl)
    (fun pre W => Ext w W ∧ Blk W w3.heap.size 187 #[.int .i64 fx, .int .i64 fy, .int .i64 dx, .int .i64 dy, .int .i64 bl, .int .i64 bh] ∧ Blk W (w3.heap.size + 1) 4 #[.bool (pre.all fun p => behindB fx fy dx dy p.x p.y)] ∧
      Blk W (w3.heap.size + 1 + 1) 4 #[.bool (pre.all fun p => belowB fx fy dx dy bl p.x p.y)] ∧ Blk W (w3.heap.size + 1 + 1 + 1) 4 #[.bool (pre.all fun p => aboveB fx fy dx dy bh p.x p.y)])
    (fun _ _ _ => False)
    (OwnFrom.and (ownFrom_ext (by omega)) (OwnFrom.and (ownFrom_blk _ _ _ _) (OwnFrom.and (ownFrom_blk _ _ _ _) (OwnFrom.and (ownFrom_blk _ _ _ _) (ownFrom_blk _ _ _ _)))))
    (fun c => ownFrom_pure _ _)
    ⟨e0, b7, b8, b9, b10⟩
    (fun x b t => (t.setIfInBounds 35 (.agg #[.int .i64 x.x, .int .i64 x.y])).setIfInBounds 11 (.pointer (some ⟨b, 0, none⟩))) 85 (fun x => #[.int .i64 x.x, .int .i64 x.y]) ?assign ?body ?done ?stop
  case assign =>
    intro l n x W K hK
    simp only [List.setIfInBounds_toArray, List.set_cons_zero, List.set_cons_succ] at hK
    simp only [vecE]
    gi_wp2
    exact hK
  case body =>
    rintro l n pre x b W hx hb hBx hW ⟨he, c7, c8, c9, c10⟩
    simp only [List.setIfInBounds_toArray, List.set_cons_zero, List.set_cons_succ]
    have hd7 := c7.cell
    have hdx := hBx.cell
    have hl7 := c7.lt
    have hlx := hBx.lt
    have C7 := Lib.hid c7
    have C8 := Lib.hid c8
    have C9 := Lib.hid c9
    have C10 := Lib.hid c10
    have HE := Lib.hid he
    have hsx := HS.out x hx W
    generalize hv1 : behindB fx fy dx dy x.x x.y = v1 at hsx
    generalize hv2 : belowB fx fy dx dy bl x.x x.y = v2 at hsx
    generalize hv3 : aboveB fx fy dx dy bh x.x x.y = v3 at hsx
    have HSx := Lib.hid hsx
    have HV1 := Lib.hid hv1
    have HV2 := Lib.hid hv2
    have HV3 := Lib.hid hv3
    clear c7 c8 c9 c10 he hsx hv1 hv2 hv3 hBx
    gi_wp2
    refine ⟨trivial, fun h => (by cases h), (CallsIn.inRound l (callsIn_wide.2 HSx.out)).mono ?_⟩
    rintro e w' ⟨rfl, h1⟩
    have C7' := Lib.hid (C7.out.ext h1)
    have C8' := Lib.hid (C8.out.ext h1)
    have C9' := Lib.hid (C9.out.ext h1)
    have C10' := Lib.hid (C10.out.ext h1)
    have H1 := Lib.hid h1
    clear hd7 hdx h1
    have i8 := C8'.out.cell
    have i9 := C9'.out.cell
    have i10 := C10'.out.cell
    have j8 := C8'.out.frozen
    have j9 := C9'.out.frozen
    have j10 := C10'.out.frozen
    have k8 := C8'.out.lt
    have k9 := C9'.out.lt
    have k10 := C10'.out.lt
    have e8 : (pre ++ [x]).all (fun p => behindB fx fy dx dy p.x p.y) = (pre.all (fun p => behindB fx fy dx dy p.x p.y) && v1) := by rw [List.all_append]; simp [HV1.out]
    have e9 : (pre ++ [x]).all (fun p => belowB fx fy dx dy bl p.x p.y) = (pre.all (fun p => belowB fx fy dx dy bl p.x p.y) && v2) := by rw [List.all_append]; simp [HV2.out]
    have e10 : (pre ++ [x]).all (fun p => aboveB fx fy dx dy bh p.x p.y) = (pre.all (fun p => aboveB fx fy dx dy bh p.x p.y) && v3) := by rw [List.all_append]; simp [HV3.out]
    have E8 := Lib.hid e8
    have E9 := Lib.hid e9
    have E10 := Lib.hid e10
    clear e8 e9 e10
    have hcaps : ∀ g ∈ [w3.heap.size + 1 + 1 + 1 + 1], g ≠ w3.heap.size + 1 ∧ g ≠ w3.heap.size + 1 + 1 ∧ g ≠ w3.heap.size + 1 + 1 + 1 := by
      intro g hg
      simp at hg
      omega
    have HCp := Lib.hid hcaps
    clear hcaps
    generalize pre.all (fun p => behindB fx fy dx dy p.x p.y) = g1 at *
    generalize pre.all (fun p => belowB fx fy dx dy bl p.x p.y) = g2 at *
    generalize pre.all (fun p => aboveB fx fy dx dy bh p.x p.y) = g3 at *
    cases g1 <;> cases g2 <;> cases g3
    all_goals gi_wp2
    all_goals exact ⟨(H1.out.keepsFrom _).trans (((KeepsOthers.setCell _ _ _).trans ((KeepsOthers.setCell _ _ _).trans (KeepsOthers.setCell _ _ _))).from _),
      (((H1.out.kpX (by omega) _).set (by dsimp only; omega) (fun g hg => (HCp.out g hg).1) _).set (by dsimp only; omega) (fun g hg => (HCp.out g hg).2.1) _).set (by dsimp only; omega) (fun g hg => (HCp.out g hg).2.2) _,
      (((HE.out.trans H1.out).set (by dsimp only; omega) _).set (by dsimp only; omega) _).set (by dsimp only; omega) _,
      ((C7'.out.far (by dsimp only; omega) _).far (by dsimp only; omega) _).far (by dsimp only; omega) _,
      by rw [E8.out]; exact ((C8'.out.set_ 0 _).far (by dsimp only; omega) _).far (by dsimp only; omega) _,
      by rw [E9.out]; exact ((C9'.out.far (by dsimp only; omega) _).set_ 0 _).far (by dsimp only; omega) _,
      by rw [E10.out]; exact ((C10'.out.far (by dsimp only; omega) _).far (by dsimp only; omega) _).set_ 0 _⟩
  case done =>
    rintro D W hD ⟨he, c7, c8, c9, c10⟩ hK
    have hd8 := c8.cell
    have hd9 := c9.cell
    have hd10 := c10.cell
    have hl8 := c8.lt
    have hl9 := c9.lt
    have hl10 := c10.lt
    have hG := HG.out
    generalize ((cornersL xl xh yl yh).all fun p => behindB fx fy dx dy p.x p.y) = g1 at *
    generalize ((cornersL xl xh yl yh).all fun p => belowB fx fy dx dy bl p.x p.y) = g2 at *
    generalize ((cornersL xl xh yl yh).all fun p => aboveB fx fy dx dy bh p.x p.y) = g3 at *
    have HG2 := Lib.hid hG
    clear hG
    dsimp only
    cases g1 <;> cases g2 <;> cases g3
    all_goals go_wp2_with fail
    all_goals refine ⟨by simp, .inl ⟨_, _, rfl, run_takeDeferred hK, ?_⟩⟩
    all_goals exact ⟨_, results_tmp rfl _ _ _, by rw [← HG2.out]; rfl, Ext.put he (by omega)⟩
  case stop =>
    rintro D c pre W hD hpre h hK
    exact h.elim

theorem Excludes_c (A1 : Option Addr) (n1 c1 : Nat) (home : Int) (A2 : Option Addr) (n2 c2 : Nat) (A3 : Option Addr) (n3 c3 : Nat) (s : Sky) (kind st cat tick dx dy er lo hi : Int) (xl xh yl yh : Int) (w : World) (hs : IsSky w A1 n1 home A2 n2 A3 n3 s) :
    Calls Tryz.prog 141 #[.agg #[.slice A1 n1 c1, .int .i64 home, .slice A2 n2 c2, .slice A3 n3 c3], .agg #[.int .i64 kind, .int .i64 st, .int .i64 cat, .int .i64 tick, .int .i64 dx, .int .i64 dy, .int .i64 er, .int .i64 lo, .int .i64 hi], .agg #[.int .i64 xl, .int .i64 xh, .int .i64 yl, .int .i64 yh]] w fun e w' => e = .returned (.bool (exclAll s ⟨kind, st, cat, tick, dx, dy, er, lo, hi⟩ xl xh yl yh)) ∧ Ext w w' := by
  cases hno : (decide (sightErr2 s ⟨kind, st, cat, tick, dx, dy, er, lo, hi⟩ = 0) && rightA xl xh yl yh)
  · have : exclAll s ⟨kind, st, cat, tick, dx, dy, er, lo, hi⟩ xl xh yl yh = false := by rw [exclAll, hno]; rfl
    rw [this]
    exact Excludes_no A1 n1 c1 home A2 n2 c2 A3 n3 c3 s kind st cat tick dx dy er lo hi xl xh yl yh w hs hno
  · have : exclAll s ⟨kind, st, cat, tick, dx, dy, er, lo, hi⟩ xl xh yl yh = exclM s ⟨kind, st, cat, tick, dx, dy, er, lo, hi⟩ (cornersL xl xh yl yh) (nearestP s ⟨kind, st, cat, tick, dx, dy, er, lo, hi⟩ xl xh yl yh) := by rw [exclAll, hno]; rfl
    rw [this]
    simp only [Bool.and_eq_true, decide_eq_true_eq] at hno
    have hk := (sight_ok hno.1).kind
    dsimp only at hk
    by_cases h1 : kind = 1
    · exact Excludes_one A1 n1 c1 home A2 n2 c2 A3 n3 c3 s kind st cat tick dx dy er lo hi xl xh yl yh w hs hno.1 hno.2 h1
    · by_cases h2 : kind = 2
      · exact Excludes_two A1 n1 c1 home A2 n2 c2 A3 n3 c3 s kind st cat tick dx dy er lo hi xl xh yl yh w hs hno.1 hno.2 h2
      · exact Excludes_three A1 n1 c1 home A2 n2 c2 A3 n3 c3 s kind st cat tick dx dy er lo hi xl xh yl yh w hs hno.1 hno.2 (by omega)
end Go.Proofs.YtfniicgoeljmdaaGreat

namespace Go.Proofs.YtfniicgoeljmdaaGreat
open Go.RowKit

def BoxP (P : Int → Int → Bool) : Prop := ∀ xl xh yl yh x y, xl ≤ x → x ≤ xh → yl ≤ y → y ≤ yh → P xl yl = true → P xl yh = true → P xh yl = true → P xh yh = true → P x y = true

theorem mul_end (U f xl xh x : Int) (h1 : xl ≤ x) (h2 : x ≤ xh) : U * (x - f) ≤ U * (xl - f) ∨ U * (x - f) ≤ U * (xh - f) := by
  rcases Int.le_total 0 U with h | h
  · exact .inr (Int.mul_le_mul_of_nonneg_left (by omega) h)
  · exact .inl (Int.mul_le_mul_of_nonpos_left h (by omega))
theorem sq_end (f xl xh x : Int) (h1 : xl ≤ x) (h2 : x ≤ xh) : (x - f) * (x - f) ≤ (xl - f) * (xl - f) ∨ (x - f) * (x - f) ≤ (xh - f) * (xh - f) := by
  have hm : ∀ a b : Int, 0 ≤ a → a ≤ b → a * a ≤ b * b := fun a b h0 h => Int.mul_le_mul h h h0 (by omega)
  rcases Int.le_total 0 (x - f) with h | h
  · exact .inr (hm _ _ h (by omega))
  · left
    have := hm (-(x - f)) (-(xl - f)) (by omega) (by omega)
    rwa [Int.neg_mul_neg, Int.neg_mul_neg] at this
def Half (P : Int → Int → Bool) : Prop := ∃ U V fx fy C, ∀ x y, P x y = true ↔ U * (x - fx) + V * (y - fy) ≤ C
theorem Half.box {P : Int → Int → Bool} (h : Half P) : BoxP P := by
  obtain ⟨U, V, fx, fy, C, h⟩ := h
  intro xl xh yl yh x y h1 h2 h3 h4 c1 c2 c3 c4
  rw [h] at c1 c2 c3 c4 ⊢
  rcases mul_end U fx xl xh x h1 h2 with a | a <;> rcases mul_end V fy yl yh y h3 h4 with b | b <;> omega
theorem BoxP.and {P Q : Int → Int → Bool} (hp : BoxP P) (hq : BoxP Q) : BoxP fun x y => P x y && Q x y := by
  intro xl xh yl yh x y h1 h2 h3 h4 c1 c2 c3 c4
  simp only [Bool.and_eq_true] at c1 c2 c3 c4 ⊢
  exact ⟨hp xl xh yl yh x y h1 h2 h3 h4 c1.1 c2.1 c3.1 c4.1, hq xl xh yl yh x y h1 h2 h3 h4 c1.2 c2.2 c3.2 c4.2⟩
theorem turn (fx fy dx dy k x y : Int) : k * dotD fx fy dx dy x y - 1000000 * crossD fx fy dx dy x y = (k * dx + 1000000 * dy) * (x - fx) + (k * dy - 1000000 * dx) * (y - fy) := by
  unfold dotD crossD
  generalize x - fx = u
  generalize y - fy = v
  simp only [Int.mul_add, Int.add_mul, Int.sub_mul, Int.mul_sub, Int.mul_assoc]
  omega
section
variable (fx fy dx dy k : Int)
theorem half_behind : Half fun x y => behindB fx fy dx dy x y := ⟨dx, dy, fx, fy, 0, fun x y => by
  simp only [behindB, decide_eq_true_eq]; unfold dotD; exact Iff.rfl⟩
theorem half_front : Half fun x y => !behindB fx fy dx dy x y := ⟨-dx, -dy, fx, fy, -1, fun x y => by
  simp only [behindB, Bool.not_eq_true', decide_eq_false_iff_not, Int.neg_mul]; unfold dotD; omega⟩
theorem half_below : Half fun x y => belowB fx fy dx dy k x y := ⟨-(k * dx + 1000000 * dy), -(k * dy - 1000000 * dx), fx, fy, -1, fun x y => by
  have := turn fx fy dx dy k x y
  simp only [belowB, decide_eq_true_eq, Int.neg_mul]; omega⟩
theorem half_over : Half fun x y => !belowB fx fy dx dy k x y := ⟨(k * dx + 1000000 * dy), (k * dy - 1000000 * dx), fx, fy, 0, fun x y => by
  have := turn fx fy dx dy k x y
  simp only [belowB, Bool.not_eq_true', decide_eq_false_iff_not]; omega⟩
theorem half_above : Half fun x y => aboveB fx fy dx dy k x y := ⟨(k * dx + 1000000 * dy), (k * dy - 1000000 * dx), fx, fy, -1, fun x y => by
  have := turn fx fy dx dy k x y
  simp only [aboveB, decide_eq_true_eq]; omega⟩
theorem half_under : Half fun x y => !aboveB fx fy dx dy k x y := ⟨-(k * dx + 1000000 * dy), -(k * dy - 1000000 * dx), fx, fy, 0, fun x y => by
  have := turn fx fy dx dy k x y
  simp only [aboveB, Bool.not_eq_true', decide_eq_false_iff_not, Int.neg_mul]; omega⟩
theorem box_in (lo hi : Int) : BoxP fun x y => inB fx fy dx dy lo hi x y := ((half_front fx fy dx dy).box.and (half_over fx fy dx dy lo).box).and (half_under fx fy dx dy hi).box
theorem box_near (C : Int) : BoxP fun x y => decide (distD x y fx fy ≤ C) := by
  intro xl xh yl yh x y h1 h2 h3 h4 c1 c2 c3 c4
  simp only [decide_eq_true_eq] at c1 c2 c3 c4 ⊢
  unfold distD at c1 c2 c3 c4 ⊢
  rcases sq_end fx xl xh x h1 h2 with a | a <;> rcases sq_end fy yl yh y h3 h4 with b | b <;> omega
theorem box_lt (C : Int) : BoxP fun x y => decide (distD x y fx fy < C) := by
  intro xl xh yl yh x y h1 h2 h3 h4 c1 c2 c3 c4
  simp only [decide_eq_true_eq] at c1 c2 c3 c4 ⊢
  unfold distD at c1 c2 c3 c4 ⊢
  rcases sq_end fx xl xh x h1 h2 with a | a <;> rcases sq_end fy yl yh y h3 h4 with b | b <;> omega
end
theorem BoxP.all {P : Int → Int → Bool} (hp : BoxP P) {xl xh yl yh : Int} (h : ((cornersL xl xh yl yh).all fun p => P p.x p.y) = true) {x y : Int} (h1 : xl ≤ x) (h2 : x ≤ xh) (h3 : yl ≤ y) (h4 : y ≤ yh) : P x y = true := by
  simp only [cornersL, List.all_cons, List.all_nil, Bool.and_true, Bool.and_eq_true] at h
  exact hp xl xh yl yh x y h1 h2 h3 h4 h.1 h.2.1 h.2.2.1 h.2.2.2
theorem BoxP.part {P : Int → Int → Bool} (hp : BoxP P) {xl xh yl yh xl' xh' yl' yh' : Int} (h : ((cornersL xl xh yl yh).all fun p => P p.x p.y) = true) (h1 : xl ≤ xl') (h2 : xl' ≤ xh') (h3 : xh' ≤ xh) (h4 : yl ≤ yl') (h5 : yl' ≤ yh') (h6 : yh' ≤ yh) :
    ((cornersL xl' xh' yl' yh').all fun p => P p.x p.y) = true := by
  simp only [cornersL, List.all_cons, List.all_nil, Bool.and_true, Bool.and_eq_true]
  exact ⟨hp.all h (by omega) (by omega) (by omega) (by omega), hp.all h (by omega) (by omega) (by omega) (by omega), hp.all h (by omega) (by omega) (by omega) (by omega), hp.all h (by omega) (by omega) (by omega) (by omega)⟩
theorem near_least (n lo hi x : Int) (h1 : lo ≤ x) (h2 : x ≤ hi) : (nearM n lo hi - n) * (nearM n lo hi - n) ≤ (x - n) * (x - n) := by
  have hm : ∀ a b : Int, 0 ≤ a → a ≤ b → a * a ≤ b * b := fun a b h0 h => Int.mul_le_mul h h h0 (by omega)
  have hc : nearM n lo hi = n ∨ (nearM n lo hi = lo ∧ n ≤ lo) ∨ (nearM n lo hi = hi ∧ hi ≤ n) := by unfold nearM; omega
  rcases hc with h | ⟨h, h3⟩ | ⟨h, h3⟩
  · rw [h, Int.sub_self]
    have : 0 ≤ (x - n) * (x - n) := by
      rcases Int.le_total 0 (x - n) with k | k
      · exact Int.mul_nonneg k k
      · exact Int.mul_nonneg_of_nonpos_of_nonpos k k
    simpa using this
  · rw [h]; exact hm _ _ (by omega) (by omega)
  · rw [h]
    have := hm (-(hi - n)) (-(x - n)) (by omega) (by omega)
    rwa [Int.neg_mul_neg, Int.neg_mul_neg] at this

section
variable (s : Sky) (x : Sight) {xl xh yl yh : Int}
theorem excl_agrees (he : exclM s x (cornersL xl xh yl yh) (nearestP s x xl xh yl yh) = true) {px py : Int} (h1 : xl ≤ px) (h2 : px ≤ xh) (h3 : yl ≤ py) (h4 : py ≤ yh) : agreesM s x px py = false := by
  unfold exclM at he
  unfold agreesM
  by_cases h : x.kind = 2
  · rw [if_pos h] at he ⊢
    rw [Bool.or_eq_true, decide_eq_true_eq] at he
    rcases he with he | he
    · have a := near_least (orig s x).x xl xh px h1 h2
      have b := near_least (orig s x).y yl yh py h3 h4
      simp only [nearestP, distD] at he
      simp only [within, Bool.and_eq_false_iff, decide_eq_false_iff_not]
      unfold distD
      omega
    · have := (box_lt (orig s x).x (orig s x).y (x.lo * x.lo)).all he h1 h2 h3 h4
      simp only [decide_eq_true_eq] at this
      simp only [within, Bool.and_eq_false_iff, decide_eq_false_iff_not]
      omega
  · rw [if_neg h] at he ⊢
    by_cases h' : x.kind = 1
    · rw [if_pos h'] at he ⊢
      simp only [Bool.or_eq_true] at he
      unfold inB
      rcases he with (he | he) | he
      · have := (half_behind (orig s x).x (orig s x).y x.dx x.dy).box.all he h1 h2 h3 h4
        rw [this]; rfl
      · have := (half_below (orig s x).x (orig s x).y x.dx x.dy (biasLo s x)).box.all he h1 h2 h3 h4
        rw [this]; simp
      · have := (half_above (orig s x).x (orig s x).y x.dx x.dy (biasHi s x)).box.all he h1 h2 h3 h4
        rw [this]; simp
    · rw [if_neg h'] at he ⊢
      have := ((box_in (orig s x).x (orig s x).y x.dx x.dy (biasLo s x) (biasHi s x)).and (box_near (orig s x).x (orig s x).y (x.hi * x.hi))).all he h1 h2 h3 h4
      simp only [Bool.and_eq_true, decide_eq_true_eq] at this
      rw [this.1, Bool.not_true, Bool.false_or, decide_eq_false_iff_not]
      omega
end
end Go.Proofs.YtfniicgoeljmdaaGreat
