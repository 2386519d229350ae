/- Where stations are: the reference. No condition. Worlds and skies that read as the same data are found equal. No condition. Whether something is so of all corners: the program. No condition. -/
import Derived.Test.YtfniicgoeljmdaaGreatAt
import Derived.RegionTactic
import Derived.Test.YtfniicgoeljmdaaGreatCorners
import Derived.Laws.EntriesVeiled
namespace Go.Proofs.YtfniicgoeljmdaaGreat
open Go.RowKit

/-- An operation of the tail that only computes a value. -/
theorem tw_val {P : Program} {S F : World → Prop} {Q : Exit → Act → World → Prop} {o : Oper} {T : List Oper} {a : Act} {v : Value} (hg : o.guard = none) (hF : Stable F) (hFS : ∀ w, F w → S w)
    (hrun : ∀ w, (execOp a.eval o).run P w = .ok (.value v) w) (h : TW P S Q T (a.put o.dst v) F) : TW P S Q (o :: T) a F :=
  ⟨hg, fun w hw => ⟨v, w, F, .inl (hrun w), hF, hFS, hw, h⟩⟩

theorem stn_none {l : List Stn} {id : Int} (h : stnOf l id = none) : idxFrom (fun x : Stn => x.id == id) l 0 = -1 := by
  rcases idx_cases (fun x : Stn => x.id == id) l with ⟨h1, _⟩ | ⟨i, y, _, _, _, h2⟩
  · exact h1
  · rw [stnOf, h2] at h; cases h

set_option maxRecDepth 4000 in
set_option maxHeartbeats 1000000 in
theorem refWhere_c (A1 : Option Addr) (n1 c1 : Nat) (home : Int) (A2 : Option Addr) (n2 c2 : Nat) (A3 : Option Addr) (n3 c3 : Nat) (s : Sky) (id tick : Int) (w : World) (hs : IsSky w A1 n1 home A2 n2 A3 n3 s) :
    Calls Tryz.prog 116 #[.agg #[.slice A1 n1 c1, .int .i64 home, .slice A2 n2 c2, .slice A3 n3 c3], .int .i64 id, .int .i64 tick] w fun e w' =>
      e = .returned (.tuple #[.agg #[.int .i64 (optV (whereM s id tick)).x, .int .i64 (optV (whereM s id tick)).y], .bool (whereM s id tick).isSome]) ∧ Ext w w' := by
  have HC := Lib.hid fun W (hW : Ext w W) => refCheck_c A1 n1 c1 home A2 n2 c2 A3 n3 c3 s W (hs.ext hW)
  have HS := Lib.hid fun W (hW : Ext w W) => refStation_c A1 n1 c1 home A2 n2 c2 A3 n3 c3 id s.stations W (hs.ext hW).stations
  by_cases hok : skyErr s = 0
  · rw [hok] at HC
    cases hx : stnOf s.stations id with
    | none =>
      rw [stn_none hx] at HS
      have hM : whereM s id tick = none := by rw [whereM, hx]; simp
      rw [hM]
      clear hM hx hok hs
      go_enter Tryz.func116, Tryz.ntmps116
      go_wp2_with fail
      refine (HC.out _ (by (repeat' (first | exact Ext.refl _ | assumption | apply Ext.alloc | apply Ext.drew | refine Ext.set ?_ (by dsimp only; omega) _ | refine Ext.trans ?_ (by assumption))))).mono ?_
      rintro e w1 ⟨rfl, h1⟩; obtain ⟨hc_w1, hf_w1, hz_w1⟩ := bcell h1; (repeat (first | rw [World.size_alloc] at hz_w1 | rw [World.size_drew] at hz_w1 | rw [World.size_setCell] at hz_w1)); have : w.heap.size < w1.heap.size := (by omega); have : w.heap.size + 1 < w1.heap.size := (by omega)
      go_wp2_with fail
      refine (HS.out _ (by (repeat' (first | exact Ext.refl _ | assumption | apply Ext.alloc | apply Ext.drew | refine Ext.set ?_ (by dsimp only; omega) _ | refine Ext.trans ?_ (by assumption))))).mono ?_
      rintro e w2 ⟨rfl, h2⟩; obtain ⟨hc_w2, hf_w2, hz_w2⟩ := bcell h2; (repeat (first | rw [World.size_alloc] at hz_w2 | rw [World.size_drew] at hz_w2 | rw [World.size_setCell] at hz_w2)); have : w.heap.size < w2.heap.size := (by omega); have : w.heap.size + 1 < w2.heap.size := (by omega)
      go_wp2_with fail
      (try simp only [Exit.inBlock, Exit.then]); apply bodyPost_ret; (focus (simp only [results, Tryz.results116]; go_simp; try rfl)); rfl
      exact ⟨rfl, by (repeat' (first | exact Ext.refl _ | assumption | apply Ext.alloc | apply Ext.drew | refine Ext.set ?_ (by dsimp only; omega) _ | refine Ext.trans ?_ (by assumption)))⟩
    | some x =>
      obtain ⟨i, hi1, hi2⟩ := stn_at hx
      rw [hi1] at HS
      cases ht : within tick 0 1073741824
      · have hM : whereM s id tick = none := by rw [whereM, if_neg (by simp [ht])]
        rw [hM]
        have Ht := Lib.hid ht
        clear hM hx hok hs hi1 hi2 ht
        go_enter Tryz.func116, Tryz.ntmps116
        go_wp2_with fail
        refine (HC.out _ (by (repeat' (first | exact Ext.refl _ | assumption | apply Ext.alloc | apply Ext.drew | refine Ext.set ?_ (by dsimp only; omega) _ | refine Ext.trans ?_ (by assumption))))).mono ?_
        rintro e w1 ⟨rfl, h1⟩; obtain ⟨hc_w1, hf_w1, hz_w1⟩ := bcell h1; (repeat (first | rw [World.size_alloc] at hz_w1 | rw [World.size_drew] at hz_w1 | rw [World.size_setCell] at hz_w1)); have : w.heap.size < w1.heap.size := (by omega); have : w.heap.size + 1 < w1.heap.size := (by omega)
        go_wp2_with fail
        refine (HS.out _ (by (repeat' (first | exact Ext.refl _ | assumption | apply Ext.alloc | apply Ext.drew | refine Ext.set ?_ (by dsimp only; omega) _ | refine Ext.trans ?_ (by assumption))))).mono ?_
        rintro e w2 ⟨rfl, h2⟩; obtain ⟨hc_w2, hf_w2, hz_w2⟩ := bcell h2; (repeat (first | rw [World.size_alloc] at hz_w2 | rw [World.size_drew] at hz_w2 | rw [World.size_setCell] at hz_w2)); have : w.heap.size < w2.heap.size := (by omega); have : w.heap.size + 1 < w2.heap.size := (by omega)
        go_wp2_with fail
        refine (between_c _ _ _ _).mono ?_
        rintro e w3 ⟨rfl, rfl⟩
        rw [Ht.out]
        go_wp2_with fail
        (try simp only [Exit.inBlock, Exit.then]); apply bodyPost_ret; (focus (simp only [results, Tryz.results116]; go_simp; try rfl)); rfl
        exact ⟨rfl, by (repeat' (first | exact Ext.refl _ | assumption | apply Ext.alloc | apply Ext.drew | refine Ext.set ?_ (by dsimp only; omega) _ | refine Ext.trans ?_ (by assumption)))⟩
      · have hM : whereM s id tick = some (addV (homeAt s tick) x.off) := by rw [whereM, if_pos ⟨hok, ht⟩, hx]; rfl
        have ht' := (within_iff _ _ _).1 ht
        have HW := Lib.hid fun W (hW : Ext w W) => refwhere_c A1 n1 c1 home A2 n2 c2 A3 n3 c3 s i x tick W (hs.ext hW) hok hi2 ht'.1 ht'.2
        rw [hM]
        simp only [optV, Option.isSome_some]
        have Ht := Lib.hid ht
        generalize addV (homeAt s tick) x.off = p at *
        clear hM hx hok hs hi1 hi2 ht ht'
        go_enter Tryz.func116, Tryz.ntmps116
        go_wp2_with fail
        refine (HC.out _ (by (repeat' (first | exact Ext.refl _ | assumption | apply Ext.alloc | apply Ext.drew | refine Ext.set ?_ (by dsimp only; omega) _ | refine Ext.trans ?_ (by assumption))))).mono ?_
        rintro e w1 ⟨rfl, h1⟩; obtain ⟨hc_w1, hf_w1, hz_w1⟩ := bcell h1; (repeat (first | rw [World.size_alloc] at hz_w1 | rw [World.size_drew] at hz_w1 | rw [World.size_setCell] at hz_w1)); have : w.heap.size < w1.heap.size := (by omega); have : w.heap.size + 1 < w1.heap.size := (by omega)
        go_wp2_with fail
        refine (HS.out _ (by (repeat' (first | exact Ext.refl _ | assumption | apply Ext.alloc | apply Ext.drew | refine Ext.set ?_ (by dsimp only; omega) _ | refine Ext.trans ?_ (by assumption))))).mono ?_
        rintro e w2 ⟨rfl, h2⟩; obtain ⟨hc_w2, hf_w2, hz_w2⟩ := bcell h2; (repeat (first | rw [World.size_alloc] at hz_w2 | rw [World.size_drew] at hz_w2 | rw [World.size_setCell] at hz_w2)); have : w.heap.size < w2.heap.size := (by omega); have : w.heap.size + 1 < w2.heap.size := (by omega)
        go_wp2_with fail
        refine (between_c _ _ _ _).mono ?_
        rintro e w3 ⟨rfl, rfl⟩
        rw [Ht.out]
        go_wp2_with fail
        refine wp_region_tail 6 (Wr _ (w.heap.size + 1)) _ (Wr.pst _ _ 85 #[.int .i64 0, .int .i64 0]) (fun _ h => h.1) (Wr.pre ?_) (by kernel_rfl) (by kernel_rfl) ?_
        · exact Blk.ext (Blk.newAt (by simp)) (Ext.trans (Ext.trans h1 h2) (by (repeat' (first | exact Ext.refl _ | assumption | apply Ext.alloc | apply Ext.drew | refine Ext.set ?_ (by dsimp only; omega) _ | refine Ext.trans ?_ (by assumption)))))
        repeat' (first | (refine bl_off (by rfl) ?_; simp only [Act.put, List.setIfInBounds_toArray, List.set_cons_zero, List.set_cons_succ]) | (apply bl_op; rfl; (intro w1 h1; obtain ⟨hc, hf, hz⟩ := Wr.cells h1; go_simp; (try go_bits); (first | exact ⟨rfl, Ext.refl _⟩ | (apply gives_call; first | (go_at_call 150; exact HS.out _ (Wr.ext h1 (by (repeat' (first | exact Ext.refl _ | assumption | apply Ext.alloc | apply Ext.drew | refine Ext.set ?_ (by dsimp only; omega) _ | refine Ext.trans ?_ (by assumption)))) (by omega))) | (go_at_call 151; exact HW.out _ (Wr.ext h1 (by (repeat' (first | exact Ext.refl _ | assumption | apply Ext.alloc | apply Ext.drew | refine Ext.set ?_ (by dsimp only; omega) _ | refine Ext.trans ?_ (by assumption)))) (by omega)))) | (go_invoke; go_simp; apply gives_call; first | (go_at_call 150; exact HS.out _ (Wr.ext h1 (by (repeat' (first | exact Ext.refl _ | assumption | apply Ext.alloc | apply Ext.drew | refine Ext.set ?_ (by dsimp only; omega) _ | refine Ext.trans ?_ (by assumption)))) (by omega))) | (go_at_call 151; exact HW.out _ (Wr.ext h1 (by (repeat' (first | exact Ext.refl _ | assumption | apply Ext.alloc | apply Ext.drew | refine Ext.set ?_ (by dsimp only; omega) _ | refine Ext.trans ?_ (by assumption)))) (by omega)))))); simp only [Act.put, List.setIfInBounds_toArray, List.set_cons_zero, List.set_cons_succ]) | (refine bl_split rfl rfl (fun hx => ?_) (fun hx => ?_) <;> simp only [hx]))
        refine bl_nil ?_
        refine tw_put rfl rfl (vs := #[.int .i64 p.x, .int .i64 p.y]) (fun w2 h2 hB => ?_) ?_
        · have hcB := hB.cell; have hfB := hB.frozen
          refine ⟨_, by go_simp, (h2.set rfl _).set rfl _, (hB.set_ 0 _).set_ 1 _⟩
        refine tw_val rfl (Wr.pst _ _ _ _) (fun _ h => h.1) (v := .bool true) (fun w => by go_simp) ?_
        refine tw_nil ?_
        rintro w4 ⟨h4, hB⟩
        have hcB := hB.cell; have hfB := hB.frozen
        go_wp2_with fail
        (try simp only [Exit.inBlock, Exit.then]); apply bodyPost_ret; (focus (simp only [results, Tryz.results116]; go_simp; try rfl)); rfl
        exact ⟨rfl, h4.ext (by (repeat' (first | exact Ext.refl _ | assumption | apply Ext.alloc | apply Ext.drew | refine Ext.set ?_ (by dsimp only; omega) _ | refine Ext.trans ?_ (by assumption)))) (by omega)⟩
  · have hM : whereM s id tick = none := by rw [whereM, if_neg (fun h => hok h.1)]
    rw [hM]
    have h0' : (skyErr s != 0) = true := by simpa using hok
    generalize skyErr s = M at *
    clear hs hok hM
    go_enter Tryz.func116, Tryz.ntmps116
    go_wp2_with fail
    refine (HC.out _ (by (repeat' (first | exact Ext.refl _ | assumption | apply Ext.alloc | apply Ext.drew | refine Ext.set ?_ (by dsimp only; omega) _ | refine Ext.trans ?_ (by assumption))))).mono ?_
    rintro e w1 ⟨rfl, h1⟩; obtain ⟨hc_w1, hf_w1, hz_w1⟩ := bcell h1; (repeat (first | rw [World.size_alloc] at hz_w1 | rw [World.size_drew] at hz_w1 | rw [World.size_setCell] at hz_w1)); have : w.heap.size < w1.heap.size := (by omega); have : w.heap.size + 1 < w1.heap.size := (by omega)
    go_wp2_with fail
    (try simp only [Exit.inBlock, Exit.then]); apply bodyPost_ret; (focus (simp only [results, Tryz.results116]; go_simp; try rfl)); rfl
    exact ⟨rfl, by (repeat' (first | exact Ext.refl _ | assumption | apply Ext.alloc | apply Ext.drew | refine Ext.set ?_ (by dsimp only; omega) _ | refine Ext.trans ?_ (by assumption)))⟩
end Go.Proofs.YtfniicgoeljmdaaGreat

namespace Go.Proofs.YtfniicgoeljmdaaGreat
open Go.RowKit

theorem name_world {Q : World → Prop} (w : World) (h : ∀ W, W = w → Q W) : Q w := h w rfl

end Go.Proofs.YtfniicgoeljmdaaGreat

namespace Go.Proofs.YtfniicgoeljmdaaGreat
open Go.RowKit Go.Shelf
attribute [local go_sem] Oper.semAt_some

theorem ownFrom_blk {β : Type} (B b : Nat) (T : TypeId) (f : β → Array Value) : OwnFrom B (fun s W => Blk W b T (f s)) := fun s X Y row hs hg hr => by
  refine (hg.block b hs.lt (fun e => ?_)).trans hs
  obtain ⟨_, o, ho, hc⟩ := hr b e.symm
  have hs' : X.heap[b]? = some (.cells (f s) T (0, 0)) := hs
  rw [hs'] at ho
  injection ho with ho
  rw [← ho] at hc
  cases hc
theorem ownFrom_ext {β : Type} {B : Nat} {w : World} (h : w.heap.size ≤ B) : OwnFrom B (fun (_ : β) W => Ext w W) := ownFrom_below (Nat.le_refl _) h

theorem Blk.put {W : World} {g : Nat} {t : TypeId} {cs : Array Value} {D : Nat} {o : Obj} (h : Blk W g t cs) (hne : g ≠ D) : Blk (W.putObj D o) g t cs := ((grownBy_putObj' W D o).block g h.lt (fun e => hne (by injection e))).trans h
theorem Ext.put {w W : World} {D : Nat} {o : Obj} (h : Ext w W) (hD : w.heap.size ≤ D) : Ext w (W.putObj D o) := grown_ext h (grownBy_putObj' W D o) fun k e => by injection e with e; omega

set_option maxRecDepth 100000 in
set_option maxHeartbeats 2000000 in
theorem all_c (xl xh yl yh : Int) (fid : Nat) (cap : Array Value) (p : Vec → Bool) (w : World)
    (hcall : ∀ (xs : Array Value) (W : World), (callFunc fid xs).run Tryz.prog W = .ok (.enter fid xs) W)
    (hf : ∀ v ∈ cornersL xl xh yl yh, ∀ W, Ext w W → Calls Tryz.prog fid (#[.agg #[.int .i64 v.x, .int .i64 v.y]] ++ cap) W fun e w' => e = .returned (.bool (p v)) ∧ Ext W w') :
    Calls Tryz.prog 179 #[.agg #[.int .i64 xl, .int .i64 xh, .int .i64 yl, .int .i64 yh], .func (.func fid) #[] cap] w fun e w' => e = .returned (.bool ((cornersL xl xh yl yh).all p)) ∧ Ext w w' := by
  have Hf := Lib.hid hf
  generalize hR : (cornersL xl xh yl yh).all p = R
  have HR := Lib.hid hR
  clear hf hR
  refine (callsIn_wide (n := 6)).1 (callsIn_of_wp_marks Tryz.func179 rfl trivial ?_)
  simp only [Tryz.ntmps179, List.size_toArray, List.length_cons, List.length_nil, Nat.reduceAdd, Nat.reduceSub, Array.replicate_succ, Array.replicate_zero, List.push_toArray, List.append_toArray, List.nil_append, List.cons_append]
  refine wpIn_wide.2 ?_
  go_wp2_with fail
  refine (corners_c _ _ _ _ _).mono ?_
  rintro e w1 ⟨rfl, rfl⟩
  go_wp2_with fail
  refine name_world _ ?_
  intro W0 hW0
  have b1 : Blk W0 (w.heap.size + 1) 158 #[.func (.func fid) #[] cap] := by rw [hW0]; exact ((Blk.newAt (by simp)).alloc _).alloc _
  have b2 : Blk W0 (w.heap.size + 1 + 1) 4 #[.bool false] := by rw [hW0]; exact (Blk.newAt (by simp)).alloc _
  have b3 : Blk W0 (w.heap.size + 1 + 1 + 1) 112 #[.int .i64 xl, .int .i64 xh, .int .i64 yl, .int .i64 yh] := by rw [hW0]; exact Blk.newAt (by simp)
  have e0 : Ext w W0 := by rw [hW0]; (repeat' (first | exact Ext.refl _ | assumption | apply Ext.alloc | apply Ext.drew | refine Ext.set ?_ (by dsimp only; omega) _ | refine Ext.trans ?_ (by assumption)))
  have hz0 : W0.heap.size = w.heap.size + 4 := by rw [hW0]; simp
  clear hW0
  refine wp_range_box (nb := w.heap.size) (corners_iter _ _ xl xh yl yh w.heap.size W0 b3) rfl Tryz.call216 (by omega) (fun _ => rfl)
    (fun pre W => ((∀ v ∈ pre, p v = true) ∧ Ext w W) ∧ Blk W (w.heap.size + 1) 158 #[.func (.func fid) #[] cap] ∧ Blk W (w.heap.size + 1 + 1) 4 #[.bool false])
    (fun c pre W => ((c = .ret ∧ ∃ v ∈ pre, p v = false) ∧ Ext w W) ∧ Blk W (w.heap.size + 1 + 1) 4 #[.bool false])
    (OwnFrom.and (OwnFrom.and (ownFrom_pure _ _) (ownFrom_ext (by omega))) (OwnFrom.and (ownFrom_blk _ _ _ _) (ownFrom_blk _ _ _ _)))
    (fun c => OwnFrom.and (OwnFrom.and (ownFrom_pure _ _) (ownFrom_ext (by omega))) (ownFrom_blk _ _ _ _))
    ⟨⟨by simp, e0⟩, b1, b2⟩
    (fun x b t => (t.setIfInBounds 8 (.agg #[.int .i64 x.x, .int .i64 x.y])).setIfInBounds 5 (.pointer (some ⟨b, 0, none⟩))) 85 (fun x => #[.int .i64 x.x, .int .i64 x.y]) ?assign ?body ?done ?stop
  case assign =>
    intro l n x W K hK
    simp only [Act.put, List.setIfInBounds_toArray, List.set_cons_zero, List.set_cons_succ] at hK
    simp only [vecE]
    gi_wp2
    exact hK
  case body =>
    rintro l n pre x b W hx hb hBx hW ⟨⟨hp, he⟩, hb1, hb2⟩
    simp only [Act.put, List.setIfInBounds_toArray, List.set_cons_zero, List.set_cons_succ]
    have hc1 := hb1.cell
    have hcx := hBx.cell
    have hl1 := hb1.lt
    have hlx := hBx.lt
    have hc2 := hb2.cell
    have hf2 := hb2.frozen
    have hl2 := hb2.lt
    have hfx := Hf.out x hx W he
    obtain ⟨v, hv⟩ : ∃ v, p x = v := ⟨_, rfl⟩
    rw [hv] at hfx
    have HFx := Lib.hid hfx
    have HV := Lib.hid hv
    have HB1 := Lib.hid hb1
    have HB2 := Lib.hid hb2
    have HP := Lib.hid hp
    have HE := Lib.hid he
    clear hb1 hb2 hBx hp hfx hv he
    gi_wp2
    refine ⟨trivial, ?_⟩
    refine ⟨fun h => (by cases h), (CallsIn.inRound l (callsIn_wide.2 HFx.out)).mono ?_⟩
    rintro e w' ⟨rfl, h1⟩
    have HB1' := Lib.hid (HB1.out.ext h1)
    have HB2' := Lib.hid (HB2.out.ext h1)
    have H1 := Lib.hid h1
    clear hc1 hcx hc2 hf2 h1
    have hc3 := HB2'.out.cell
    have hf3 := HB2'.out.frozen
    have hl3 := HB2'.out.lt
    cases v
    · gi_wp2
      exact ⟨((H1.out.keepsFrom _).trans ((KeepsOthers.setCell _ _ _).from _)), ⟨⟨⟨rfl, x, by simp, HV.out⟩, (HE.out.trans H1.out).set (by dsimp only; omega) _⟩, HB2'.out.set_ 0 _⟩⟩
    · gi_wp2
      refine ⟨H1.out.keepsFrom _, H1.out.kpX (by omega) _, ⟨?_, HE.out.trans H1.out⟩, HB1'.out, HB2'.out⟩
      intro q hq
      rcases List.mem_append.1 hq with hq | hq
      · exact HP.out q hq
      · simp at hq; subst hq; exact HV.out
  case done =>
    rintro D W hD ⟨⟨hp, he⟩, hb1, hb2⟩ hK
    have hc2 := hb2.cell
    have hf2 := hb2.frozen
    have hl2 := hb2.lt
    have hpa : (cornersL xl xh yl yh).all p = true := List.all_eq_true.2 hp
    have hne : w.heap.size + 1 + 1 ≠ D := by omega
    obtain rfl := HR.out.symm.trans hpa
    dsimp only
    go_wp2_with fail
    refine ⟨by simp, .inl ⟨_, _, rfl, run_takeDeferred (by rw [Below.heap_setCell _ _ _ _ (fun e => hne e.symm)]; exact hK), ?_⟩⟩
    have hB9 := (Blk.put (o := Obj.deferred none) (hb2.set_ 0 (.bool true)) hne).cell
    refine ⟨.bool true, ?_, rfl, Ext.put (he.set (by dsimp only; omega) _) (by omega)⟩
    simp only [results, Tryz.results179]
    go_simp
  case stop =>
    rintro D c pre W hD hpre ⟨⟨⟨rfl, v, hv, hpv⟩, he⟩, hb2⟩ hK
    have hpa : (cornersL xl xh yl yh).all p = false := by
      rw [List.all_eq_false]
      exact ⟨v, hpre.subset hv, by simp [hpv]⟩
    obtain rfl := HR.out.symm.trans hpa
    have hne : w.heap.size + 1 + 1 ≠ D := by omega
    dsimp only
    go_wp2_with fail
    refine ⟨by simp, .inl ⟨_, _, rfl, run_takeDeferred hK, ?_⟩⟩
    have hB9 := (Blk.put (o := Obj.deferred none) hb2 hne).cell
    refine ⟨.bool false, ?_, rfl, Ext.put he (by omega)⟩
    simp only [results, Tryz.results179]
    go_simp
end Go.Proofs.YtfniicgoeljmdaaGreat
