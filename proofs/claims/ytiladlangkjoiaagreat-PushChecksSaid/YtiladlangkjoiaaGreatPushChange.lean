/- What a mission does: look-up of its deed; the program. No condition. Speeds of flights, and what a mission does, or which error: the program. No condition. Which missions reach an area, and what they do, or which error: the program. No condition. What missions do in sum: the program. No condition. -/
import Derived.Test.YtiladlangkjoiaaGreatPushDeed
import Derived.Maps.OwnOps
import Derived.Test.YtiladlangkjoiaaGreatForceSum
import Derived.Test.YtiladlangkjoiaaGreatPushMem
namespace Go.Proofs.YtiladlangkjoiaaGreat
open Go.RowKit

def mapW (W : World) (b : Nat) (es : Array MapEntry) (c : Nat) : World := { W with heap := W.heap.setIfInBounds b (.map es c) }
theorem mapW_at {W : World} {b : Nat} {o : Obj} (es : Array MapEntry) (c : Nat) (hb : W.heap[b]? = some o) : (mapW W b es c).heap[b]? = some (.map es c) := (MapKept.heap_set hb).1
theorem mapW_ext {w W : World} {b : Nat} (es : Array MapEntry) (c : Nat) (e : Ext w W) (hb : w.heap.size ≤ b) : Ext w (mapW W b es c) := Ext.put (D := b) (o := .map es c) e hb
theorem run_insert {P : Program} {mty kt et : TypeId} {es : Array MapEntry} {c : Nat} {W : World} {b : Nat} (k : Int) (val : Value) (hm : P.underlying mty = some (.map kt et)) (hk : P.underlying kt = some (.int .i64)) (hb : W.heap[b]? = some (.map es c))
    (hf : Instr.findNow (.int .i64) (.int .i64 k) es.toList 0 = some none) : (Instr.mapUpdate mty (.map (some b)) (.int .i64 k) val).run P W = .ok () (mapW W b (es.push { key := .int .i64 k, val := val, born := c }) (c + 1)) := by
  have hc : (Instr.checkKey false 10000 kt (.int .i64 k)).run P W = .ok () W := MapKept.run_checkKey (k := .int .i64 k) hk (by simp [MapKept.IsKey]) false 9999
  simp [Instr.mapUpdate, run_underlying hm, MapKept.run_getObj_map hb, hc, MapKept.run_findKey hk hf, MapKept.run_setObj_map _ hb, Result.andThen, mapW]
theorem run_look {P : Program} {mty kt et : TypeId} {es : Array MapEntry} {c : Nat} {W : World} {b : Nat} (k : Int) (i : Nat) (val : Value) (hm : P.underlying mty = some (.map kt et)) (hk : P.underlying kt = some (.int .i64)) (hb : W.heap[b]? = some (.map es c))
    (hf : Instr.findNow (.int .i64) (.int .i64 k) es.toList 0 = some (some (i, val))) : (Instr.lookup mty (.map (some b)) (.int .i64 k) false).run P W = .ok val W := by
  have hc : ∀ e, (Instr.checkKey e 10000 kt (.int .i64 k)).run P W = .ok () W := fun e => MapKept.run_checkKey (k := .int .i64 k) hk (by simp [MapKept.IsKey]) e 9999
  simp [Instr.lookup, run_underlying hm, MapKept.run_getObj_map hb, hc, MapKept.run_findKey hk hf, Result.andThen]
def deedE (k f born : Nat) : MapEntry := { key := .int .i64 (k : Int), val := .func (.func f) #[] #[], born := born }
def deedM : Array MapEntry := #[deedE 1 246 0, deedE 2 247 1, deedE 3 247 2, deedE 4 248 3]
set_option maxRecDepth 20000 in
set_option maxHeartbeats 2000000 in
theorem pDeeds_c (w : World) :
    Calls Tryz.prog 182 #[] w fun e w' => ∃ b, e = .returned (.map (some b)) ∧ w'.heap[b]? = some (.map deedM 4) ∧ Ext w w' := by
  have hm := Tryz.underlying212
  have hk := Tryz.underlying3
  have h0 : (w.alloc (.map #[] 0)).heap[w.heap.size]? = some (.map #[] 0) := World.alloc_heap_new w _
  have hmk : (Instr.makeMap 212 none).run Tryz.prog w = .ok (.map (some w.heap.size)) (w.alloc (.map #[] 0)) := run_makeMap _ w
  have i1 := run_insert (P := Tryz.prog) 1 (.func (.func 246) #[] #[]) hm hk h0 rfl
  have h1 := mapW_at (#[deedE 1 246 0]) 1 h0
  have e1 : Ext w (mapW (w.alloc (.map #[] 0)) w.heap.size #[deedE 1 246 0] 1) := mapW_ext _ _ (Ext.alloc0 _ _) (Nat.le_refl _)
  obtain ⟨W1, hW1⟩ : ∃ W1, W1 = mapW (w.alloc (.map #[] 0)) w.heap.size #[deedE 1 246 0] 1 := ⟨_, rfl⟩
  replace i1 : (Instr.mapUpdate 212 (.map (some w.heap.size)) (.int .i64 1) (.func (.func 246) #[] #[])).run Tryz.prog (w.alloc (.map #[] 0)) = .ok () W1 := by rw [hW1]; exact i1
  rw [← hW1] at h1 e1
  have i2 := run_insert (P := Tryz.prog) 2 (.func (.func 247) #[] #[]) hm hk h1 rfl
  obtain ⟨W2, hW2⟩ : ∃ W2, W2 = mapW W1 w.heap.size #[deedE 1 246 0, deedE 2 247 1] 2 := ⟨_, rfl⟩
  have h2 := mapW_at (#[deedE 1 246 0, deedE 2 247 1]) 2 h1
  have e2 : Ext w W2 := by rw [hW2]; exact mapW_ext _ _ e1 (Nat.le_refl _)
  replace i2 : (Instr.mapUpdate 212 (.map (some w.heap.size)) (.int .i64 2) (.func (.func 247) #[] #[])).run Tryz.prog W1 = .ok () W2 := by rw [hW2]; exact i2
  rw [← hW2] at h2
  have i3 := run_insert (P := Tryz.prog) 3 (.func (.func 247) #[] #[]) hm hk h2 rfl
  obtain ⟨W3, hW3⟩ : ∃ W3, W3 = mapW W2 w.heap.size #[deedE 1 246 0, deedE 2 247 1, deedE 3 247 2] 3 := ⟨_, rfl⟩
  have h3 := mapW_at (#[deedE 1 246 0, deedE 2 247 1, deedE 3 247 2]) 3 h2
  have e3 : Ext w W3 := by rw [hW3]; exact mapW_ext _ _ e2 (Nat.le_refl _)
  replace i3 : (Instr.mapUpdate 212 (.map (some w.heap.size)) (.int .i64 3) (.func (.func 247) #[] #[])).run Tryz.prog W2 = .ok () W3 := by rw [hW3]; exact i3
  rw [← hW3] at h3
  have i4 := run_insert (P := Tryz.prog) 4 (.func (.func 248) #[] #[]) hm hk h3 rfl
  obtain ⟨W4, hW4⟩ : ∃ W4, W4 = mapW W3 w.heap.size deedM 4 := ⟨_, rfl⟩
  have h4 := mapW_at deedM 4 h3
  have e4 : Ext w W4 := by rw [hW4]; exact mapW_ext _ _ e3 (Nat.le_refl _)
  replace i4 : (Instr.mapUpdate 212 (.map (some w.heap.size)) (.int .i64 4) (.func (.func 248) #[] #[])).run Tryz.prog W3 = .ok () W4 := by rw [hW4]; exact i4
  rw [← hW4] at h4
  have H4 := Lib.hid h4
  have E4 := Lib.hid e4
  clear h0 h1 h2 h3 h4 e1 e2 e3 e4 hW1 hW2 hW3 hW4 hm hk
  go_enter Tryz.func182, Tryz.ntmps182
  go_wp2_with fail
  go_ret
  exact ⟨_, rfl, H4.out, E4.out⟩
section
variable (m : Mis) (A : Option Addr) (n c : Nat) (home : Int) (body : Sp) (b : Bx) (tick : Int) (w : World)
set_option maxRecDepth 20000 in
set_option maxHeartbeats 8000000 in
theorem pDoes_k (k f i : Nat) (X : Ar) (hm : misErr m = 0) (hk : m.kind = (k : Int)) (hw : worksB m tick = true) (hlk : Instr.findNow (.int .i64) (.int .i64 (k : Int)) deedM.toList 0 = some (some (i, .func (.func f) #[] #[])))
    (hcall : ∀ (xs : Array Value) (W : World), (callFunc f xs).run Tryz.prog W = .ok (.enter f xs) W)
    (HF : Hid (∀ W, Ext w W → Calls Tryz.prog f #[.agg #[.int .i64 m.kind, .int .i64 m.launch, .int .i64 m.arrive, .int .i64 m.dur, .int .i64 m.mass.lo, .int .i64 m.mass.hi, .int .i64 m.power.lo, .int .i64 m.power.hi, .int .i64 m.mult.lo, .int .i64 m.mult.hi, .int .i64 m.dir.x, .int .i64 m.dir.y, .bool m.reserve, .int .i64 m.cost, .slice A n c, .int .i64 home, .int .i64 body.lo, .int .i64 body.hi, .int .i64 b.x.lo, .int .i64 b.x.hi, .int .i64 b.y.lo, .int .i64 b.y.hi, .int .i64 b.u.lo, .int .i64 b.u.hi, .int .i64 b.v.lo, .int .i64 b.v.hi]] W fun e w' => e = .returned (arV X) ∧ Ext W w')) :
    Calls Tryz.prog 98 #[.agg #[.slice A n c, .int .i64 home], .agg #[.int .i64 m.kind, .int .i64 m.launch, .int .i64 m.arrive, .int .i64 m.dur, .int .i64 m.mass.lo, .int .i64 m.mass.hi, .int .i64 m.power.lo, .int .i64 m.power.hi, .int .i64 m.mult.lo, .int .i64 m.mult.hi, .int .i64 m.dir.x, .int .i64 m.dir.y, .bool m.reserve, .int .i64 m.cost], .agg #[.int .i64 body.lo, .int .i64 body.hi], .int .i64 tick, .agg #[.int .i64 b.x.lo, .int .i64 b.x.hi, .int .i64 b.y.lo, .int .i64 b.y.hi, .int .i64 b.u.lo, .int .i64 b.u.hi, .int .i64 b.v.lo, .int .i64 b.v.hi]] w fun e w' => e = .returned (arV X) ∧ Ext w w' := by
  have HW := Lib.hid fun W => pWorks_c m tick W hm
  rw [hw] at HW
  obtain ⟨⟨xl, xh⟩, yl, yh⟩ := X
  have HLK := Lib.hid hlk
  have HK := Lib.hid hk
  dsimp only [arV] at HF ⊢
  have HF' := HF.out
  rw [hk] at HF'
  have HF2 := Lib.hid HF'
  clear HF HF'
  clear hm hw hlk hk
  go_enter Tryz.func98, Tryz.ntmps98
  go_wp2_with fail
  refine (HW.out _).mono ?_
  rintro e w1 ⟨rfl, h1⟩
  have B5 : Blk w1 w.heap.size 24 #[.slice A n c, .int .i64 home] := (((((Blk.newAt rfl).alloc _).alloc _).alloc _).alloc _).ext h1
  have B6 : Blk w1 (w.heap.size + 1) 30 #[.int .i64 m.kind, .int .i64 m.launch, .int .i64 m.arrive, .int .i64 m.dur, .int .i64 m.mass.lo, .int .i64 m.mass.hi, .int .i64 m.power.lo, .int .i64 m.power.hi, .int .i64 m.mult.lo, .int .i64 m.mult.hi, .int .i64 m.dir.x, .int .i64 m.dir.y, .bool m.reserve, .int .i64 m.cost] := ((((Blk.newAt (by simp)).alloc _).alloc _).alloc _).ext h1
  have B7 : Blk w1 (w.heap.size + 1 + 1) 26 #[.int .i64 body.lo, .int .i64 body.hi] := (((Blk.newAt (by simp)).alloc _).alloc _).ext h1
  have B9 : Blk w1 (w.heap.size + 1 + 1 + 1) 48 #[.int .i64 b.x.lo, .int .i64 b.x.hi, .int .i64 b.y.lo, .int .i64 b.y.hi, .int .i64 b.u.lo, .int .i64 b.u.hi, .int .i64 b.v.lo, .int .i64 b.v.hi] := ((Blk.newAt (by simp)).alloc _).ext h1
  have B10 : Blk w1 (w.heap.size + 1 + 1 + 1 + 1) 32 #[.int .i64 0, .int .i64 0, .int .i64 0, .int .i64 0] := (Blk.newAt (by simp)).ext h1
  have E1 : Ext w w1 := ext_by
  clear h1 HW
  have c_B5 := B5.cell; have f_B5 := B5.frozen; have l_B5 := B5.lt; have c_B6 := B6.cell; have f_B6 := B6.frozen; have l_B6 := B6.lt; have c_B7 := B7.cell; have f_B7 := B7.frozen; have l_B7 := B7.lt; have c_B9 := B9.cell; have f_B9 := B9.frozen; have l_B9 := B9.lt; have c_B10 := B10.cell; have f_B10 := B10.frozen; have l_B10 := B10.lt
  go_wp2_with fail
  have hm9 := Tryz.underlying212
  have hk9 := Tryz.underlying3
  refine wp_region_freeL 10 (by kernel_rfl) (by kernel_rfl) ?_
  simp only [List.take_succ_cons, List.take_zero, List.drop_succ_cons, List.drop_zero]
  refine fb_eff (fun v w => ∃ b, v = .map (some b) ∧ w.heap[b]? = some (.map deedM 4)) (fun _ _ _ ⟨b, h1, h2⟩ e => ⟨b, h1, (e.block b (Array.getElem?_eq_some_iff.1 h2).1).trans h2⟩) rfl rfl (fun w2 h2 => runs_call (f := 182) (args := #[]) (by go_simp) ((pDeeds_c w2).mono ?_)) ?_
  · rintro e w3 ⟨b3, rfl, hb3, h3⟩
    exact ⟨_, rfl, ⟨b3, rfl, hb3⟩, h3⟩
  have hke := HK.out
  repeat' (first
    | (apply fb_use; rfl; (intro u; rfl); (rintro u w2 h2 ⟨b9, rfl, hB9⟩; have hl9 := run_look (P := Tryz.prog) (k : Int) i _ hm9 hk9 hB9 HLK.out; clear hB9; go_simp; exact ⟨rfl, Ext.refl _⟩); simp only [putX])
    | (apply fb_op; rfl; rfl; (intro w2 h2; obtain ⟨hc, hf, hz⟩ := bcell h2; go_simp; (try go_bits); (first | exact ⟨rfl, Ext.refl _⟩ | (apply gives_call; exact HF2.out _ ext_by) | (go_invoke; go_simp; apply gives_call; exact HF2.out _ ext_by))); simp only [putX]))
  refine fb_nil ?_
  intro val w5 h5 hg
  clear hg
  simp only [putV, Act.put, List.setIfInBounds_toArray, List.set_cons_zero, List.set_cons_succ]
  clear c_B5 f_B5 l_B5 c_B6 f_B6 l_B6 c_B7 f_B7 l_B7 c_B9 f_B9 l_B9 c_B10 f_B10 l_B10
  have C10 := B10.ext h5
  have E5 := E1.trans h5
  clear h5 hke HK
  have c_C10 := C10.cell; have f_C10 := C10.frozen; have l_C10 := C10.lt
  go_wp2_with fail
  (try simp only [Exit.inBlock, Exit.then]); apply bodyPost_ret; (focus (simp only [results, Tryz.results98]; go_simp; try rfl)); rfl
  exact ⟨rfl, ext_by⟩
set_option maxRecDepth 20000 in
set_option maxHeartbeats 4000000 in
theorem pDoes_no (hm : misErr m = 0) (hw : worksB m tick = false) :
    Calls Tryz.prog 98 #[.agg #[.slice A n c, .int .i64 home], .agg #[.int .i64 m.kind, .int .i64 m.launch, .int .i64 m.arrive, .int .i64 m.dur, .int .i64 m.mass.lo, .int .i64 m.mass.hi, .int .i64 m.power.lo, .int .i64 m.power.hi, .int .i64 m.mult.lo, .int .i64 m.mult.hi, .int .i64 m.dir.x, .int .i64 m.dir.y, .bool m.reserve, .int .i64 m.cost], .agg #[.int .i64 body.lo, .int .i64 body.hi], .int .i64 tick, .agg #[.int .i64 b.x.lo, .int .i64 b.x.hi, .int .i64 b.y.lo, .int .i64 b.y.hi, .int .i64 b.u.lo, .int .i64 b.u.hi, .int .i64 b.v.lo, .int .i64 b.v.hi]] w fun e w' => e = .returned (arV zeroA) ∧ Ext w w' := by
  have HW := Lib.hid fun W => pWorks_c m tick W hm
  rw [hw] at HW
  unfold arV zeroA
  dsimp only
  clear hm hw
  go_enter Tryz.func98, Tryz.ntmps98
  go_wp2_with fail
  refine (HW.out _).mono ?_
  rintro e w1 ⟨rfl, h1⟩
  have B10 : Blk w1 (w.heap.size + 1 + 1 + 1 + 1) 32 #[.int .i64 0, .int .i64 0, .int .i64 0, .int .i64 0] := (Blk.newAt (by simp)).ext h1
  have E1 : Ext w w1 := ext_by
  clear h1 HW
  have c_B10 := B10.cell; have f_B10 := B10.frozen; have l_B10 := B10.lt
  go_wp2_with fail
  (try simp only [Exit.inBlock, Exit.then]); apply bodyPost_ret; (focus (simp only [results, Tryz.results98]; go_simp; try rfl)); rfl
  exact ⟨rfl, ext_by⟩
theorem pDoes_c (l : List Body) (hl : Bodies w A n l) (hm : misErr m = 0) (hd : boundErr body 1 1099511627776 = 0) :
    Calls Tryz.prog 98 #[.agg #[.slice A n c, .int .i64 home], .agg #[.int .i64 m.kind, .int .i64 m.launch, .int .i64 m.arrive, .int .i64 m.dur, .int .i64 m.mass.lo, .int .i64 m.mass.hi, .int .i64 m.power.lo, .int .i64 m.power.hi, .int .i64 m.mult.lo, .int .i64 m.mult.hi, .int .i64 m.dir.x, .int .i64 m.dir.y, .bool m.reserve, .int .i64 m.cost], .agg #[.int .i64 body.lo, .int .i64 body.hi], .int .i64 tick, .agg #[.int .i64 b.x.lo, .int .i64 b.x.hi, .int .i64 b.y.lo, .int .i64 b.y.hi, .int .i64 b.u.lo, .int .i64 b.u.hi, .int .i64 b.v.lo, .int .i64 b.v.hi]] w fun e w' => e = .returned (arV (doesA l home m body tick b)) ∧ Ext w w' := by
  unfold doesA
  cases hw : worksB m tick
  · rw [if_neg (by simp)]
    exact pDoes_no m A n c home body b tick w hm hw
  · rw [if_pos rfl]
    obtain ⟨⟨k1, k2⟩, _⟩ := misErr_ok.1 hm
    rcases (show m.kind = 1 ∨ m.kind = 2 ∨ m.kind = 3 ∨ m.kind = 4 by omega) with h | h | h | h
    · rw [if_pos h]
      exact pDoes_k m A n c home body b tick w 1 _ 0 _ hm h hw rfl Tryz.call246 (Lib.hid fun W hW => pHits_c m A n c home body b W l (Bodies.ext hW hl) hm)
    · rw [if_neg (by omega), if_neg (by omega)]
      exact pDoes_k m A n c home body b tick w 2 _ 1 _ hm h hw rfl Tryz.call247 (Lib.hid fun W _ => pDraws_c m A n c home body b W)
    · rw [if_neg (by omega), if_neg (by omega)]
      exact pDoes_k m A n c home body b tick w 3 _ 2 _ hm h hw rfl Tryz.call247 (Lib.hid fun W _ => pDraws_c m A n c home body b W)
    · rw [if_neg (by omega), if_pos h]
      exact pDoes_k m A n c home body b tick w 4 _ 3 _ hm h hw rfl Tryz.call248 (Lib.hid fun W _ => pShoves_c m A n c home body b W hm hd)
end
end Go.Proofs.YtiladlangkjoiaaGreat

namespace Go.Proofs.YtiladlangkjoiaaGreat
open Go.RowKit

set_option maxRecDepth 20000 in
set_option maxHeartbeats 2000000 in
theorem pCheckPush_c (body : Sp) (tick : Int) (b : Bx) (w : World) :
    Calls Tryz.prog 97 #[.agg #[.int .i64 body.lo, .int .i64 body.hi], .int .i64 tick, .agg #[.int .i64 b.x.lo, .int .i64 b.x.hi, .int .i64 b.y.lo, .int .i64 b.y.hi, .int .i64 b.u.lo, .int .i64 b.u.hi, .int .i64 b.v.lo, .int .i64 b.v.hi]] w fun e w' => e = .returned (.int .i64 (askPush body tick b)) ∧ Ext w w' := by
  have HB : Hid (∀ W, Calls Tryz.prog 94 #[.agg #[.int .i64 body.lo, .int .i64 body.hi]] W fun e w' => e = .returned (.int .i64 (boundErr body 1 1099511627776)) ∧ Ext W w') := Lib.hid fun W => pCheckBody_c body.lo body.hi W
  have HT := Lib.hid fun W => pWithin_c tick 0 1073741824 W
  have HC := Lib.hid fun W => oCheck_c b W
  obtain ⟨R, hR⟩ : ∃ R, askPush body tick b = R := ⟨_, rfl⟩
  rw [hR]
  unfold askPush at hR
  have HR := Lib.hid hR
  clear hR
  generalize boundErr body 1 1099511627776 = E1 at *
  generalize within tick 0 1073741824 = T at *
  generalize bxErr b = E2 at *
  by_cases g1 : E1 = 0
  · subst g1
    cases T
    · have hr : R = 2 := by have := HR.out; simpa using this.symm
      subst hr
      go_enter Tryz.func97, Tryz.ntmps97
      go_wp2_with fail
      refine (HB.out _).mono ?_
      rintro e w1 ⟨rfl, h1⟩
      obtain ⟨hc_w1, hf_w1, hz_w1⟩ := bcell h1; (try simp only [szA] at hz_w1); (try have := wz0 w w1); (try have := wz1 w w1); (try have := wz2 w w1); (try have := wz3 w w1); (try have := wz4 w w1)
      go_wp2_with fail
      refine (HT.out _).mono ?_
      rintro e w2 ⟨rfl, h2⟩
      obtain ⟨hc_w2, hf_w2, hz_w2⟩ := bcell h2; (try simp only [szA] at hz_w2); (try have := wz0 w w2); (try have := wz1 w w2); (try have := wz2 w w2); (try have := wz3 w w2); (try have := wz4 w w2)
      go_wp2_with fail
      go_ret
      exact ⟨rfl, ext_by⟩
    · have hr : R = E2 := by have := HR.out; simpa using this.symm
      subst hr
      go_enter Tryz.func97, Tryz.ntmps97
      go_wp2_with fail
      refine (HB.out _).mono ?_
      rintro e w1 ⟨rfl, h1⟩
      have B5 : Blk w1 (w.heap.size + 1) 48 #[.int .i64 b.x.lo, .int .i64 b.x.hi, .int .i64 b.y.lo, .int .i64 b.y.hi, .int .i64 b.u.lo, .int .i64 b.u.hi, .int .i64 b.v.lo, .int .i64 b.v.hi] := (Blk.newAt (by simp)).ext h1
      have E : Ext w w1 := ext_by
      clear h1
      have c_B5 := B5.cell; have f_B5 := B5.frozen; have l_B5 := B5.lt
      go_wp2_with fail
      refine (HT.out _).mono ?_
      rintro e w2 ⟨rfl, h2⟩
      clear c_B5 f_B5 l_B5
      replace B5 := B5.ext h2; have c_B5 := B5.cell; have f_B5 := B5.frozen; have l_B5 := B5.lt
      replace E := E.trans h2
      clear h2
      go_wp2_with fail
      refine (HC.out _).mono ?_
      rintro e w3 ⟨rfl, h3⟩
      replace E := E.trans h3
      clear h3
      go_wp2_with fail
      go_ret
      exact ⟨rfl, ext_by⟩
  · have hr : R = E1 := by have := HR.out; rw [if_pos g1] at this; exact this.symm
    subst hr
    go_enter Tryz.func97, Tryz.ntmps97
    go_wp2_with fail
    refine (HB.out _).mono ?_
    rintro e w1 ⟨rfl, h1⟩
    obtain ⟨hc_w1, hf_w1, hz_w1⟩ := bcell h1; (try simp only [szA] at hz_w1); (try have := wz0 w w1); (try have := wz1 w w1); (try have := wz2 w w1); (try have := wz3 w w1); (try have := wz4 w w1)
    go_wp2_with fail
    go_ret
    exact ⟨rfl, ext_by⟩
section
variable (m : Mis) (A : Option Addr) (n c : Nat) (home : Int) (l : List Body) (w : World)
set_option maxRecDepth 20000 in
set_option maxHeartbeats 8000000 in
theorem pSpeedsT_c (xl xh yl yh : Int) (hl : Bodies w A n l) :
    Calls Tryz.prog 22 #[.agg #[.slice A n c, .int .i64 home], .agg #[.int .i64 m.kind, .int .i64 m.launch, .int .i64 m.arrive, .int .i64 m.dur, .int .i64 m.mass.lo, .int .i64 m.mass.hi, .int .i64 m.power.lo, .int .i64 m.power.hi, .int .i64 m.mult.lo, .int .i64 m.mult.hi, .int .i64 m.dir.x, .int .i64 m.dir.y, .bool m.reserve, .int .i64 m.cost], .agg #[.int .i64 xl, .int .i64 xh, .int .i64 yl, .int .i64 yh]] w fun e w' => e = .returned (.tuple #[arV (spdA l home m ⟨⟨xl, xh⟩, ⟨yl, yh⟩⟩), .int .i64 (spdErr l home m ⟨⟨xl, xh⟩, ⟨yl, yh⟩⟩)]) ∧ Ext w w' := by
  have HW := Lib.hid fun W (hW : Ext w W) => CheckWorld_c A n c home l W (Bodies.ext hW hl)
  have HM := Lib.hid fun W => pCheckMission_c m W
  have HP := Lib.hid fun W => pPlaces_c xl xh yl yh W
  have HA := Lib.hid fun W (hW : Ext w W) => At_c A n c home home m.launch l W (Bodies.ext hW hl)
  have hmok := fun h => (misErr_ok (m := m)).1 h
  have HMK := Lib.hid hmok
  unfold spdA spdErr
  generalize wldErr ⟨l, home⟩ = E0 at *
  generalize misErr m = E1 at *
  generalize placesB ⟨⟨xl, xh⟩, ⟨yl, yh⟩⟩ = P at *
  generalize atM l home home m.launch = h at *
  obtain ⟨hx, hy⟩ := h
  dsimp only at HA
  have HS := Lib.hid fun W => pSpeeds_c hx hy xl xh yl yh (m.arrive - m.launch) W
  generalize speedsM ⟨hx, hy⟩ ⟨⟨xl, xh⟩, ⟨yl, yh⟩⟩ (m.arrive - m.launch) = S at *
  obtain ⟨⟨s1, s2⟩, s3, s4⟩ := S
  dsimp only [arV] at HS ⊢
  clear hl hmok
  by_cases g0 : E0 = 0
  · subst g0
    by_cases g1 : E1 = 0
    · subst g1
      obtain ⟨_, ⟨q1, q2, q3, _⟩, _⟩ := HMK.out rfl
      clear HMK
      cases P
      · simp only [ne_eq, not_true, if_false, Bool.false_eq_true, zeroA, if_neg (show ¬ (2 : Int) = 0 by decide)]
        clear HA HS
        go_enter Tryz.func22, Tryz.ntmps22
        go_wp2_with fail
        refine (HW.out _ ext_by).mono ?_
        rintro e w1 ⟨rfl, h1⟩
        have B4 : Blk w1 (w.heap.size + 1) 30 #[.int .i64 m.kind, .int .i64 m.launch, .int .i64 m.arrive, .int .i64 m.dur, .int .i64 m.mass.lo, .int .i64 m.mass.hi, .int .i64 m.power.lo, .int .i64 m.power.hi, .int .i64 m.mult.lo, .int .i64 m.mult.hi, .int .i64 m.dir.x, .int .i64 m.dir.y, .bool m.reserve, .int .i64 m.cost] := ((((Blk.newAt (by simp)).alloc _).alloc _)).ext h1
        have B5 : Blk w1 (w.heap.size + 1 + 1) 32 #[.int .i64 xl, .int .i64 xh, .int .i64 yl, .int .i64 yh] := (((Blk.newAt (by simp)).alloc _)).ext h1
        have B6 : Blk w1 (w.heap.size + 1 + 1 + 1) 32 #[.int .i64 0, .int .i64 0, .int .i64 0, .int .i64 0] := ((Blk.newAt (by simp))).ext h1
        have E : Ext w w1 := ext_by
        clear h1
        have c_B4 := B4.cell; have f_B4 := B4.frozen; have l_B4 := B4.lt; have c_B5 := B5.cell; have f_B5 := B5.frozen; have l_B5 := B5.lt; have c_B6 := B6.cell; have f_B6 := B6.frozen; have l_B6 := B6.lt
        go_wp2_with fail
        refine (HM.out _).mono ?_
        rintro e w2 ⟨rfl, h2⟩
        clear c_B4 f_B4 l_B4 c_B5 f_B5 l_B5 c_B6 f_B6 l_B6
        replace B5 := B5.ext h2; replace B6 := B6.ext h2; have c_B5 := B5.cell; have f_B5 := B5.frozen; have l_B5 := B5.lt; have c_B6 := B6.cell; have f_B6 := B6.frozen; have l_B6 := B6.lt
        replace E := E.trans h2
        clear h2 B4
        go_wp2_with fail
        refine (HP.out _).mono ?_
        rintro e w3 ⟨rfl, h3⟩
        clear c_B5 f_B5 l_B5 c_B6 f_B6 l_B6
        replace B6 := B6.ext h3; have c_B6 := B6.cell; have f_B6 := B6.frozen; have l_B6 := B6.lt
        replace E := E.trans h3
        clear h3 B5
        (try dsimp only); repeat' (first | go_values | go_skip | go_guarded | go_step | go_upon | go_in | go_at_K)
        refine name_world _ ?_
        intro W9 hW9
        have Q8 : Blk W9 (w.heap.size + 1 + 1 + 1) 32 #[.int .i64 0, .int .i64 0, .int .i64 0, .int .i64 0] := by rw [hW9]; exact blk_set2 (blk_set2 B6 rfl) rfl
        have QE : Ext w W9 := by rw [hW9]; exact ext_set2 (ext_set2 E (by omega)) (by omega)
        clear hW9
        have c_Q8 := Q8.cell; have f_Q8 := Q8.frozen; have l_Q8 := Q8.lt
        (try simp only [Exit.inBlock, Exit.then]); apply bodyPost_ret; (focus (simp only [results, Tryz.results22]; go_simp; try rfl)); rfl
        exact ⟨rfl, QE⟩
      · simp only [ne_eq, not_true, if_false, if_true]
        go_enter Tryz.func22, Tryz.ntmps22
        go_wp2_with fail
        refine (HW.out _ ext_by).mono ?_
        rintro e w1 ⟨rfl, h1⟩
        have B3 : Blk w1 (w.heap.size) 24 #[.slice A n c, .int .i64 home] := (((((Blk.newAt (by simp)).alloc _).alloc _).alloc _)).ext h1
        have B4 : Blk w1 (w.heap.size + 1) 30 #[.int .i64 m.kind, .int .i64 m.launch, .int .i64 m.arrive, .int .i64 m.dur, .int .i64 m.mass.lo, .int .i64 m.mass.hi, .int .i64 m.power.lo, .int .i64 m.power.hi, .int .i64 m.mult.lo, .int .i64 m.mult.hi, .int .i64 m.dir.x, .int .i64 m.dir.y, .bool m.reserve, .int .i64 m.cost] := ((((Blk.newAt (by simp)).alloc _).alloc _)).ext h1
        have B5 : Blk w1 (w.heap.size + 1 + 1) 32 #[.int .i64 xl, .int .i64 xh, .int .i64 yl, .int .i64 yh] := (((Blk.newAt (by simp)).alloc _)).ext h1
        have B6 : Blk w1 (w.heap.size + 1 + 1 + 1) 32 #[.int .i64 0, .int .i64 0, .int .i64 0, .int .i64 0] := ((Blk.newAt (by simp))).ext h1
        have E : Ext w w1 := ext_by
        clear h1
        have c_B3 := B3.cell; have f_B3 := B3.frozen; have l_B3 := B3.lt; have c_B4 := B4.cell; have f_B4 := B4.frozen; have l_B4 := B4.lt; have c_B5 := B5.cell; have f_B5 := B5.frozen; have l_B5 := B5.lt; have c_B6 := B6.cell; have f_B6 := B6.frozen; have l_B6 := B6.lt
        go_wp2_with fail
        refine (HM.out _).mono ?_
        rintro e w2 ⟨rfl, h2⟩
        clear c_B3 f_B3 l_B3 c_B4 f_B4 l_B4 c_B5 f_B5 l_B5 c_B6 f_B6 l_B6
        replace B3 := B3.ext h2; replace B4 := B4.ext h2; replace B5 := B5.ext h2; replace B6 := B6.ext h2; have c_B3 := B3.cell; have f_B3 := B3.frozen; have l_B3 := B3.lt; have c_B4 := B4.cell; have f_B4 := B4.frozen; have l_B4 := B4.lt; have c_B5 := B5.cell; have f_B5 := B5.frozen; have l_B5 := B5.lt; have c_B6 := B6.cell; have f_B6 := B6.frozen; have l_B6 := B6.lt
        replace E := E.trans h2
        clear h2
        go_wp2_with fail
        refine (HP.out _).mono ?_
        rintro e w3 ⟨rfl, h3⟩
        clear c_B3 f_B3 l_B3 c_B4 f_B4 l_B4 c_B5 f_B5 l_B5 c_B6 f_B6 l_B6
        replace B3 := B3.ext h3; replace B4 := B4.ext h3; replace B5 := B5.ext h3; replace B6 := B6.ext h3; have c_B3 := B3.cell; have f_B3 := B3.frozen; have l_B3 := B3.lt; have c_B4 := B4.cell; have f_B4 := B4.frozen; have l_B4 := B4.lt; have c_B5 := B5.cell; have f_B5 := B5.frozen; have l_B5 := B5.lt; have c_B6 := B6.cell; have f_B6 := B6.frozen; have l_B6 := B6.lt
        replace E := E.trans h3
        clear h3 HW HM HP
        go_wp2_with fail
        refine wp_region_freeT 13 [] (by kernel_rfl) (by kernel_rfl) (by intro q hq; cases hq) ?_
        simp only [List.take_succ_cons, List.take_zero, List.drop_succ_cons, List.drop_zero]
        (repeat' (first | (refine fb_off (by rfl) (by rfl) ?_; simp only [putX]) | (apply fb_op; rfl; rfl; (intro w1 h1; obtain ⟨hc, hf, hz⟩ := bcell h1; go_simp; (try go_bits); (first | exact ⟨rfl, Ext.refl _⟩ | (apply gives_call; first | (go_at_call 86; exact HA.out _ ext_by) | (go_at_call 85; exact HS.out _)) | (go_invoke; go_simp; apply gives_call; first | (go_at_call 86; exact HA.out _ ext_by) | (go_at_call 85; exact HS.out _)))); simp only [putX]) | (apply fb_slice; rfl; rfl; (intro w1 h1; obtain ⟨hc, hf, hz⟩ := bcell h1; go_simp; first | rfl | exact ⟨⟨rfl, rfl⟩, rfl⟩)) | (apply fb_alloc; rfl; rfl; (intro w1 h1; go_simp; first | rfl | exact ⟨rfl, rfl⟩)) | (apply fb_use; rfl; (intro u; rfl); (rintro u w1 h1 ⟨b, rfl, hB⟩; obtain ⟨hc, hf, hz⟩ := bcell h1; go_simp; (first | exact ⟨rfl, Ext.refl _⟩)); simp only [putX]) | (refine fb_split rfl rfl (fun hx => ?_) (fun hx => ?_) <;> simp only [hx])))
        refine fb_nil ⟨(by intro q hq; cases hq), ?_⟩
        intro val w4 h4 hg hne
        simp only [putV]
        clear hg hne 
        clear c_B3 f_B3 l_B3 c_B4 f_B4 l_B4 c_B5 f_B5 l_B5 c_B6 f_B6 l_B6
        replace B6 := B6.ext h4; have c_B6 := B6.cell; have f_B6 := B6.frozen; have l_B6 := B6.lt
        replace E := E.trans h4
        clear h4 B3 B4 B5
        (try dsimp only); repeat' (first | go_values | go_skip | go_guarded | go_step | go_upon | go_in | go_at_K)
        refine name_world _ ?_
        intro W9 hW9
        have Q8 : Blk W9 (w.heap.size + 1 + 1 + 1) 32 #[.int .i64 s1, .int .i64 s2, .int .i64 s3, .int .i64 s4] := by rw [hW9]; exact blk_set2 (blk_set2 B6 rfl) rfl
        have QE : Ext w W9 := by rw [hW9]; exact ext_set2 (ext_set2 E (by omega)) (by omega)
        clear hW9
        have c_Q8 := Q8.cell; have f_Q8 := Q8.frozen; have l_Q8 := Q8.lt
        (try simp only [Exit.inBlock, Exit.then]); apply bodyPost_ret; (focus (simp only [results, Tryz.results22]; go_simp; try rfl)); rfl
        exact ⟨rfl, QE⟩
    · simp only [ne_eq, not_true, if_false, if_pos g1, if_neg g1, zeroA]
      clear HA HS HP HMK
      go_enter Tryz.func22, Tryz.ntmps22
      go_wp2_with fail
      refine (HW.out _ ext_by).mono ?_
      rintro e w1 ⟨rfl, h1⟩
      have B4 : Blk w1 (w.heap.size + 1) 30 #[.int .i64 m.kind, .int .i64 m.launch, .int .i64 m.arrive, .int .i64 m.dur, .int .i64 m.mass.lo, .int .i64 m.mass.hi, .int .i64 m.power.lo, .int .i64 m.power.hi, .int .i64 m.mult.lo, .int .i64 m.mult.hi, .int .i64 m.dir.x, .int .i64 m.dir.y, .bool m.reserve, .int .i64 m.cost] := ((((Blk.newAt (by simp)).alloc _).alloc _)).ext h1
      have B6 : Blk w1 (w.heap.size + 1 + 1 + 1) 32 #[.int .i64 0, .int .i64 0, .int .i64 0, .int .i64 0] := ((Blk.newAt (by simp))).ext h1
      have E : Ext w w1 := ext_by
      clear h1
      have c_B4 := B4.cell; have f_B4 := B4.frozen; have l_B4 := B4.lt; have c_B6 := B6.cell; have f_B6 := B6.frozen; have l_B6 := B6.lt
      go_wp2_with fail
      refine (HM.out _).mono ?_
      rintro e w2 ⟨rfl, h2⟩
      clear c_B4 f_B4 l_B4 c_B6 f_B6 l_B6
      replace B6 := B6.ext h2; have c_B6 := B6.cell; have f_B6 := B6.frozen; have l_B6 := B6.lt
      replace E := E.trans h2
      clear h2 B4
      (try dsimp only); repeat' (first | go_values | go_skip | go_guarded | go_step | go_upon | go_in | go_at_K)
      refine name_world _ ?_
      intro W9 hW9
      have Q8 : Blk W9 (w.heap.size + 1 + 1 + 1) 32 #[.int .i64 0, .int .i64 0, .int .i64 0, .int .i64 0] := by rw [hW9]; exact blk_set2 (blk_set2 B6 rfl) rfl
      have QE : Ext w W9 := by rw [hW9]; exact ext_set2 (ext_set2 E (by omega)) (by omega)
      clear hW9
      have c_Q8 := Q8.cell; have f_Q8 := Q8.frozen; have l_Q8 := Q8.lt
      (try simp only [Exit.inBlock, Exit.then]); apply bodyPost_ret; (focus (simp only [results, Tryz.results22]; go_simp; try rfl)); rfl
      exact ⟨rfl, QE⟩
  · simp only [ne_eq, if_pos g0, if_neg g0, zeroA]
    clear HA HS HP HM HMK
    go_enter Tryz.func22, Tryz.ntmps22
    go_wp2_with fail
    refine (HW.out _ ext_by).mono ?_
    rintro e w1 ⟨rfl, h1⟩
    have B6 : Blk w1 (w.heap.size + 1 + 1 + 1) 32 #[.int .i64 0, .int .i64 0, .int .i64 0, .int .i64 0] := ((Blk.newAt (by simp))).ext h1
    have E : Ext w w1 := ext_by
    clear h1
    have c_B6 := B6.cell; have f_B6 := B6.frozen; have l_B6 := B6.lt
    (try dsimp only); repeat' (first | go_values | go_skip | go_guarded | go_step | go_upon | go_in | go_at_K)
    refine name_world _ ?_
    intro W9 hW9
    have Q8 : Blk W9 (w.heap.size + 1 + 1 + 1) 32 #[.int .i64 0, .int .i64 0, .int .i64 0, .int .i64 0] := by rw [hW9]; exact blk_set2 (blk_set2 B6 rfl) rfl
    have QE : Ext w W9 := by rw [hW9]; exact ext_set2 (ext_set2 E (by omega)) (by omega)
    clear hW9
    have c_Q8 := Q8.cell; have f_Q8 := Q8.frozen; have l_Q8 := Q8.lt
    (try simp only [Exit.inBlock, Exit.then]); apply bodyPost_ret; (focus (simp only [results, Tryz.results22]; go_simp; try rfl)); rfl
    exact ⟨rfl, QE⟩
end
end Go.Proofs.YtiladlangkjoiaaGreat

namespace Go.Proofs.YtiladlangkjoiaaGreat
open Go.RowKit

section
variable (m : Mis) (A : Option Addr) (n c : Nat) (home : Int) (l : List Body) (w : World)
set_option maxRecDepth 20000 in
set_option maxHeartbeats 4000000 in
theorem pReaches_c (xl xh yl yh fast : Int) (hl : Bodies w A n l) :
    Calls Tryz.prog 28 #[.agg #[.slice A n c, .int .i64 home], .agg #[.int .i64 m.kind, .int .i64 m.launch, .int .i64 m.arrive, .int .i64 m.dur, .int .i64 m.mass.lo, .int .i64 m.mass.hi, .int .i64 m.power.lo, .int .i64 m.power.hi, .int .i64 m.mult.lo, .int .i64 m.mult.hi, .int .i64 m.dir.x, .int .i64 m.dir.y, .bool m.reserve, .int .i64 m.cost], .agg #[.int .i64 xl, .int .i64 xh, .int .i64 yl, .int .i64 yh], .int .i64 fast] w fun e w' => e = .returned (.bool (reachB l home m ⟨⟨xl, xh⟩, ⟨yl, yh⟩⟩ fast)) ∧ Ext w w' := by
  have HS := Lib.hid fun W (hW : Ext w W) => pSpeedsT_c m A n c home l W xl xh yl yh (Bodies.ext hW hl)
  have HW := Lib.hid fun W => pWithin_c fast 1 1048576 W
  have hfi := Lib.hid (within_iff fast 1 1048576)
  unfold reachB
  generalize spdA l home m ⟨⟨xl, xh⟩, ⟨yl, yh⟩⟩ = S at *
  generalize spdErr l home m ⟨⟨xl, xh⟩, ⟨yl, yh⟩⟩ = E0 at *
  obtain ⟨⟨s1, s2⟩, s3, s4⟩ := S
  dsimp only [arV] at HS
  have HL := Lib.hid fun (h : 1 ≤ fast ∧ fast ≤ 1048576) W => pSlow_c s1 s2 s3 s4 fast W h
  generalize slowB ⟨⟨s1, s2⟩, ⟨s3, s4⟩⟩ fast = R at *
  generalize within fast 1 1048576 = F at *
  clear hl
  go_enter Tryz.func28, Tryz.ntmps28
  go_wp2_with fail
  refine (HS.out _ ext_by).mono ?_
  rintro e w1 ⟨rfl, h1⟩
  have E : Ext w w1 := ext_by
  have z1 := E.size
  clear h1 HS
  by_cases g0 : E0 = 0
  · subst g0
    cases F
    · clear HL
      go_wp2_with fail
      refine (HW.out _).mono ?_
      rintro e w2 ⟨rfl, h2⟩
      go_wp2_with fail
      go_ret
      exact ⟨ret_b (by simp), ext_by⟩
    · have HL2 := Lib.hid (HL.out (hfi.out.1 rfl))
      clear HL hfi
      go_wp2_with fail
      refine (HW.out _).mono ?_
      rintro e w2 ⟨rfl, h2⟩
      have B9 : Blk w2 w1.heap.size 32 #[.int .i64 s1, .int .i64 s2, .int .i64 s3, .int .i64 s4] := (Blk.newAt (by simp)).ext h2
      have E2 : Ext w w2 := (E.alloc _).trans h2
      clear h2
      have c_B9 := B9.cell; have f_B9 := B9.frozen; have l_B9 := B9.lt
      go_wp2_with fail
      refine (HL2.out _).mono ?_
      rintro e w3 ⟨rfl, h3⟩
      go_wp2_with fail
      go_ret
      exact ⟨ret_b (by simp), ext_by⟩
  · clear HL HW
    go_wp2_with fail
    go_ret
    exact ⟨ret_b (by simp [g0]), ext_by⟩
end
section
variable (m : Mis) (A : Option Addr) (n c : Nat) (home : Int) (l : List Body) (body : Sp) (tick : Int) (b : Bx) (w : World)
set_option maxRecDepth 20000 in
set_option maxHeartbeats 8000000 in
theorem pDoesT_c (hl : Bodies w A n l) :
    Calls Tryz.prog 30 #[.agg #[.slice A n c, .int .i64 home], .agg #[.int .i64 m.kind, .int .i64 m.launch, .int .i64 m.arrive, .int .i64 m.dur, .int .i64 m.mass.lo, .int .i64 m.mass.hi, .int .i64 m.power.lo, .int .i64 m.power.hi, .int .i64 m.mult.lo, .int .i64 m.mult.hi, .int .i64 m.dir.x, .int .i64 m.dir.y, .bool m.reserve, .int .i64 m.cost], .agg #[.int .i64 body.lo, .int .i64 body.hi], .int .i64 tick, .agg #[.int .i64 b.x.lo, .int .i64 b.x.hi, .int .i64 b.y.lo, .int .i64 b.y.hi, .int .i64 b.u.lo, .int .i64 b.u.hi, .int .i64 b.v.lo, .int .i64 b.v.hi]] w fun e w' => e = .returned (.tuple #[arV (doesV l home m body tick b), .int .i64 (doesErr l home m body tick b)]) ∧ Ext w w' := by
  have HW := Lib.hid fun W (hW : Ext w W) => CheckWorld_c A n c home l W (Bodies.ext hW hl)
  have HM := Lib.hid fun W => pCheckMission_c m W
  have HP := Lib.hid fun W => pCheckPush_c body tick b W
  have HD := Lib.hid fun (hm : misErr m = 0) (hd : boundErr body 1 1099511627776 = 0) W (hW : Ext w W) => pDoes_c m A n c home body b tick W l (Bodies.ext hW hl) hm hd
  have hpk : askPush body tick b = 0 → boundErr body 1 1099511627776 = 0 := by
    unfold askPush
    intro h
    by_cases g : boundErr body 1 1099511627776 = 0
    · exact g
    · rw [if_pos g] at h; exact h
  have HPK := Lib.hid hpk
  unfold doesV doesErr
  generalize boundErr body 1 1099511627776 = EB at *
  generalize doesA l home m body tick b = S at *
  generalize wldErr ⟨l, home⟩ = E0 at *
  generalize misErr m = E1 at *
  generalize askPush body tick b = E2 at *
  obtain ⟨⟨s1, s2⟩, s3, s4⟩ := S
  dsimp only [arV] at HD ⊢
  clear hl hpk
  by_cases g0 : E0 = 0
  · subst g0
    by_cases g1 : E1 = 0
    · subst g1
      by_cases g2 : E2 = 0
      · subst g2
        have HD2 := Lib.hid (HD.out rfl (HPK.out rfl))
        clear HD HPK
        simp only [ne_eq, not_true, if_false, if_true]
        go_enter Tryz.func30, Tryz.ntmps30
        go_wp2_with fail
        refine (HW.out _ ext_by).mono ?_
        rintro e w1 ⟨rfl, h1⟩
        have B3 : Blk w1 (w.heap.size) 24 #[.slice A n c, .int .i64 home] := ((((((Blk.newAt (by simp)).alloc _).alloc _).alloc _).alloc _)).ext h1
        have B4 : Blk w1 (w.heap.size + 1) 30 #[.int .i64 m.kind, .int .i64 m.launch, .int .i64 m.arrive, .int .i64 m.dur, .int .i64 m.mass.lo, .int .i64 m.mass.hi, .int .i64 m.power.lo, .int .i64 m.power.hi, .int .i64 m.mult.lo, .int .i64 m.mult.hi, .int .i64 m.dir.x, .int .i64 m.dir.y, .bool m.reserve, .int .i64 m.cost] := (((((Blk.newAt (by simp)).alloc _).alloc _).alloc _)).ext h1
        have B5 : Blk w1 (w.heap.size + 1 + 1) 26 #[.int .i64 body.lo, .int .i64 body.hi] := ((((Blk.newAt (by simp)).alloc _).alloc _)).ext h1
        have B6 : Blk w1 (w.heap.size + 1 + 1 + 1) 48 #[.int .i64 b.x.lo, .int .i64 b.x.hi, .int .i64 b.y.lo, .int .i64 b.y.hi, .int .i64 b.u.lo, .int .i64 b.u.hi, .int .i64 b.v.lo, .int .i64 b.v.hi] := (((Blk.newAt (by simp)).alloc _)).ext h1
        have B7 : Blk w1 (w.heap.size + 1 + 1 + 1 + 1) 32 #[.int .i64 0, .int .i64 0, .int .i64 0, .int .i64 0] := ((Blk.newAt (by simp))).ext h1
        have E : Ext w w1 := ext_by
        clear h1
        have c_B3 := B3.cell; have f_B3 := B3.frozen; have l_B3 := B3.lt; have c_B4 := B4.cell; have f_B4 := B4.frozen; have l_B4 := B4.lt; have c_B5 := B5.cell; have f_B5 := B5.frozen; have l_B5 := B5.lt; have c_B6 := B6.cell; have f_B6 := B6.frozen; have l_B6 := B6.lt; have c_B7 := B7.cell; have f_B7 := B7.frozen; have l_B7 := B7.lt
        go_wp2_with fail
        refine (HM.out _).mono ?_
        rintro e w2 ⟨rfl, h2⟩
        clear c_B3 f_B3 l_B3 c_B4 f_B4 l_B4 c_B5 f_B5 l_B5 c_B6 f_B6 l_B6 c_B7 f_B7 l_B7
        replace B3 := B3.ext h2; replace B4 := B4.ext h2; replace B5 := B5.ext h2; replace B6 := B6.ext h2; replace B7 := B7.ext h2; have c_B3 := B3.cell; have f_B3 := B3.frozen; have l_B3 := B3.lt; have c_B4 := B4.cell; have f_B4 := B4.frozen; have l_B4 := B4.lt; have c_B5 := B5.cell; have f_B5 := B5.frozen; have l_B5 := B5.lt; have c_B6 := B6.cell; have f_B6 := B6.frozen; have l_B6 := B6.lt; have c_B7 := B7.cell; have f_B7 := B7.frozen; have l_B7 := B7.lt
        replace E := E.trans h2
        clear h2
        go_wp2_with fail
        refine (HP.out _).mono ?_
        rintro e w3 ⟨rfl, h3⟩
        clear c_B3 f_B3 l_B3 c_B4 f_B4 l_B4 c_B5 f_B5 l_B5 c_B6 f_B6 l_B6 c_B7 f_B7 l_B7
        replace B3 := B3.ext h3; replace B4 := B4.ext h3; replace B5 := B5.ext h3; replace B6 := B6.ext h3; replace B7 := B7.ext h3; have c_B3 := B3.cell; have f_B3 := B3.frozen; have l_B3 := B3.lt; have c_B4 := B4.cell; have f_B4 := B4.frozen; have l_B4 := B4.lt; have c_B5 := B5.cell; have f_B5 := B5.frozen; have l_B5 := B5.lt; have c_B6 := B6.cell; have f_B6 := B6.frozen; have l_B6 := B6.lt; have c_B7 := B7.cell; have f_B7 := B7.frozen; have l_B7 := B7.lt
        replace E := E.trans h3
        clear h3
        clear HW HM HP
        go_wp2_with fail
        refine (HD2.out _ E).mono ?_
        rintro e w4 ⟨rfl, h4⟩
        clear c_B7 f_B7 l_B7 c_B3 f_B3 l_B3 c_B4 f_B4 l_B4 c_B5 f_B5 l_B5 c_B6 f_B6 l_B6
        replace B7 := B7.ext h4; have c_B7 := B7.cell; have f_B7 := B7.frozen; have l_B7 := B7.lt
        replace E := E.trans h4
        clear h4 B3 B4 B5 B6
        (try dsimp only); repeat' (first | go_values | go_skip | go_guarded | go_step | go_upon | go_in | go_at_K)
        refine name_world _ ?_
        intro W9 hW9
        have Q8 : Blk W9 (w.heap.size + 1 + 1 + 1 + 1) 32 #[.int .i64 s1, .int .i64 s2, .int .i64 s3, .int .i64 s4] := by rw [hW9]; exact blk_set2 (blk_set2 B7 rfl) rfl
        have QE : Ext w W9 := by rw [hW9]; exact ext_set2 (ext_set2 E (by omega)) (by omega)
        clear hW9
        have c_Q8 := Q8.cell; have f_Q8 := Q8.frozen; have l_Q8 := Q8.lt
        (try simp only [Exit.inBlock, Exit.then]); apply bodyPost_ret; (focus (simp only [results, Tryz.results30]; go_simp; try rfl)); rfl
        exact ⟨rfl, QE⟩
      · simp only [ne_eq, not_true, if_false, if_neg g2, zeroA]
        clear HD HPK
        go_enter Tryz.func30, Tryz.ntmps30
        go_wp2_with fail
        refine (HW.out _ ext_by).mono ?_
        rintro e w1 ⟨rfl, h1⟩
        have B4 : Blk w1 (w.heap.size + 1) 30 #[.int .i64 m.kind, .int .i64 m.launch, .int .i64 m.arrive, .int .i64 m.dur, .int .i64 m.mass.lo, .int .i64 m.mass.hi, .int .i64 m.power.lo, .int .i64 m.power.hi, .int .i64 m.mult.lo, .int .i64 m.mult.hi, .int .i64 m.dir.x, .int .i64 m.dir.y, .bool m.reserve, .int .i64 m.cost] := (((((Blk.newAt (by simp)).alloc _).alloc _).alloc _)).ext h1
        have B5 : Blk w1 (w.heap.size + 1 + 1) 26 #[.int .i64 body.lo, .int .i64 body.hi] := ((((Blk.newAt (by simp)).alloc _).alloc _)).ext h1
        have B6 : Blk w1 (w.heap.size + 1 + 1 + 1) 48 #[.int .i64 b.x.lo, .int .i64 b.x.hi, .int .i64 b.y.lo, .int .i64 b.y.hi, .int .i64 b.u.lo, .int .i64 b.u.hi, .int .i64 b.v.lo, .int .i64 b.v.hi] := (((Blk.newAt (by simp)).alloc _)).ext h1
        have B7 : Blk w1 (w.heap.size + 1 + 1 + 1 + 1) 32 #[.int .i64 0, .int .i64 0, .int .i64 0, .int .i64 0] := ((Blk.newAt (by simp))).ext h1
        have E : Ext w w1 := ext_by
        clear h1
        have c_B4 := B4.cell; have f_B4 := B4.frozen; have l_B4 := B4.lt; have c_B5 := B5.cell; have f_B5 := B5.frozen; have l_B5 := B5.lt; have c_B6 := B6.cell; have f_B6 := B6.frozen; have l_B6 := B6.lt; have c_B7 := B7.cell; have f_B7 := B7.frozen; have l_B7 := B7.lt
        go_wp2_with fail
        refine (HM.out _).mono ?_
        rintro e w2 ⟨rfl, h2⟩
        clear c_B5 f_B5 l_B5 c_B6 f_B6 l_B6 c_B7 f_B7 l_B7 c_B4 f_B4 l_B4
        replace B5 := B5.ext h2; replace B6 := B6.ext h2; replace B7 := B7.ext h2; have c_B5 := B5.cell; have f_B5 := B5.frozen; have l_B5 := B5.lt; have c_B6 := B6.cell; have f_B6 := B6.frozen; have l_B6 := B6.lt; have c_B7 := B7.cell; have f_B7 := B7.frozen; have l_B7 := B7.lt
        replace E := E.trans h2
        clear h2 B4
        go_wp2_with fail
        refine (HP.out _).mono ?_
        rintro e w3 ⟨rfl, h3⟩
        clear c_B7 f_B7 l_B7 c_B5 f_B5 l_B5 c_B6 f_B6 l_B6
        replace B7 := B7.ext h3; have c_B7 := B7.cell; have f_B7 := B7.frozen; have l_B7 := B7.lt
        replace E := E.trans h3
        clear h3 B5 B6
        (try dsimp only); repeat' (first | go_values | go_skip | go_guarded | go_step | go_upon | go_in | go_at_K)
        refine name_world _ ?_
        intro W9 hW9
        have Q8 : Blk W9 (w.heap.size + 1 + 1 + 1 + 1) 32 #[.int .i64 0, .int .i64 0, .int .i64 0, .int .i64 0] := by rw [hW9]; exact blk_set2 (blk_set2 B7 rfl) rfl
        have QE : Ext w W9 := by rw [hW9]; exact ext_set2 (ext_set2 E (by omega)) (by omega)
        clear hW9
        have c_Q8 := Q8.cell; have f_Q8 := Q8.frozen; have l_Q8 := Q8.lt
        (try simp only [Exit.inBlock, Exit.then]); apply bodyPost_ret; (focus (simp only [results, Tryz.results30]; go_simp; try rfl)); rfl
        exact ⟨rfl, QE⟩
    · simp only [ne_eq, not_true, if_false, if_pos g1, if_neg g1, zeroA]
      clear HD HPK HP
      go_enter Tryz.func30, Tryz.ntmps30
      go_wp2_with fail
      refine (HW.out _ ext_by).mono ?_
      rintro e w1 ⟨rfl, h1⟩
      have B4 : Blk w1 (w.heap.size + 1) 30 #[.int .i64 m.kind, .int .i64 m.launch, .int .i64 m.arrive, .int .i64 m.dur, .int .i64 m.mass.lo, .int .i64 m.mass.hi, .int .i64 m.power.lo, .int .i64 m.power.hi, .int .i64 m.mult.lo, .int .i64 m.mult.hi, .int .i64 m.dir.x, .int .i64 m.dir.y, .bool m.reserve, .int .i64 m.cost] := (((((Blk.newAt (by simp)).alloc _).alloc _).alloc _)).ext h1
      have B7 : Blk w1 (w.heap.size + 1 + 1 + 1 + 1) 32 #[.int .i64 0, .int .i64 0, .int .i64 0, .int .i64 0] := ((Blk.newAt (by simp))).ext h1
      have E : Ext w w1 := ext_by
      clear h1
      have c_B4 := B4.cell; have f_B4 := B4.frozen; have l_B4 := B4.lt; have c_B7 := B7.cell; have f_B7 := B7.frozen; have l_B7 := B7.lt
      go_wp2_with fail
      refine (HM.out _).mono ?_
      rintro e w2 ⟨rfl, h2⟩
      clear c_B7 f_B7 l_B7 c_B4 f_B4 l_B4
      replace B7 := B7.ext h2; have c_B7 := B7.cell; have f_B7 := B7.frozen; have l_B7 := B7.lt
      replace E := E.trans h2
      clear h2 B4
      (try dsimp only); repeat' (first | go_values | go_skip | go_guarded | go_step | go_upon | go_in | go_at_K)
      refine name_world _ ?_
      intro W9 hW9
      have Q8 : Blk W9 (w.heap.size + 1 + 1 + 1 + 1) 32 #[.int .i64 0, .int .i64 0, .int .i64 0, .int .i64 0] := by rw [hW9]; exact blk_set2 (blk_set2 B7 rfl) rfl
      have QE : Ext w W9 := by rw [hW9]; exact ext_set2 (ext_set2 E (by omega)) (by omega)
      clear hW9
      have c_Q8 := Q8.cell; have f_Q8 := Q8.frozen; have l_Q8 := Q8.lt
      (try simp only [Exit.inBlock, Exit.then]); apply bodyPost_ret; (focus (simp only [results, Tryz.results30]; go_simp; try rfl)); rfl
      exact ⟨rfl, QE⟩
  · simp only [ne_eq, if_pos g0, if_neg g0, zeroA]
    clear HD HPK HP HM
    go_enter Tryz.func30, Tryz.ntmps30
    go_wp2_with fail
    refine (HW.out _ ext_by).mono ?_
    rintro e w1 ⟨rfl, h1⟩
    have B7 : Blk w1 (w.heap.size + 1 + 1 + 1 + 1) 32 #[.int .i64 0, .int .i64 0, .int .i64 0, .int .i64 0] := ((Blk.newAt (by simp))).ext h1
    have E : Ext w w1 := ext_by
    clear h1
    have c_B7 := B7.cell; have f_B7 := B7.frozen; have l_B7 := B7.lt
    (try dsimp only); repeat' (first | go_values | go_skip | go_guarded | go_step | go_upon | go_in | go_at_K)
    refine name_world _ ?_
    intro W9 hW9
    have Q8 : Blk W9 (w.heap.size + 1 + 1 + 1 + 1) 32 #[.int .i64 0, .int .i64 0, .int .i64 0, .int .i64 0] := by rw [hW9]; exact blk_set2 (blk_set2 B7 rfl) rfl
    have QE : Ext w W9 := by rw [hW9]; exact ext_set2 (ext_set2 E (by omega)) (by omega)
    clear hW9
    have c_Q8 := Q8.cell; have f_Q8 := Q8.frozen; have l_Q8 := Q8.lt
    (try simp only [Exit.inBlock, Exit.then]); apply bodyPost_ret; (focus (simp only [results, Tryz.results30]; go_simp; try rfl)); rfl
    exact ⟨rfl, QE⟩
end
end Go.Proofs.YtiladlangkjoiaaGreat

namespace Go.Proofs.YtiladlangkjoiaaGreat
open Go.RowKit

section
variable (A : Option Addr) (n c : Nat) (home : Int) (l : List Body) (M : Option Addr) (k0 k1 : Nat) (L : List Mis) (body : Sp) (tick : Int) (b : Bx) (w : World)
set_option maxRecDepth 20000 in
set_option maxHeartbeats 16000000 in
theorem pChange_c (hl : Bodies w A n l) (hM : Miss w M k0 L) (hL : ∀ m ∈ L, misErr m = 0) (hn : L.length ≤ 8) (hd : boundErr body 1 1099511627776 = 0) (hb : bxErr b = 0) :
    Calls Tryz.prog 201 #[.agg #[.slice A n c, .int .i64 home], .slice M k0 k1, .agg #[.int .i64 body.lo, .int .i64 body.hi], .int .i64 tick, .agg #[.int .i64 b.x.lo, .int .i64 b.x.hi, .int .i64 b.y.lo, .int .i64 b.y.hi, .int .i64 b.u.lo, .int .i64 b.u.hi, .int .i64 b.v.lo, .int .i64 b.v.hi]] w fun e w' => e = .returned (arV (changeA l home L body tick b)) ∧ Ext w w' := by
  have hk0 := hM.le
  have hlen := Lib.hid hM.len
  have HSm := Lib.hid fun (m : Mis) (hm : m ∈ L) => does_sm (l := l) (home := home) (tick := tick) (hL m hm) hd hb
  have HD := Lib.hid fun (m : Mis) (hm : m ∈ L) W (hW : Ext w W) => pDoes_c m A n c home body b tick W l (Bodies.ext hW hl) (hL m hm) hd
  have HSU := Lib.hid fun (al ah bl bh : Int) (g : Nat) (t : TypeId) (c : Nat) (W : World) h ha hb => pSum2_c al ah bl bh g t c W h ha hb
  have hn60 := Lib.hid hn
  obtain ⟨T, hT⟩ : ∃ T, changeA l home L body tick b = T := ⟨_, rfl⟩
  rw [hT]
  have HT : Hid (L.foldl (fun o m => sumA o (doesA l home m body tick b)) zeroA = T) := hT
  have HM := Lib.hid fun W (hW : Ext w W) => Miss.ext hW hM
  clear hT hl hL hn hd hb
  go_enter Tryz.func201, Tryz.ntmps201
  go_wp2_with fail
  refine name_world _ ?_
  intro w0 hw0
  have B5 : Blk w0 w.heap.size 24 #[.slice A n c, .int .i64 home] := by rw [hw0]; exact ((((Blk.newAt rfl).alloc _).alloc _).alloc _).alloc _
  have B7 : Blk w0 (w.heap.size + 1) 26 #[.int .i64 body.lo, .int .i64 body.hi] := by rw [hw0]; exact (((Blk.newAt (by simp)).alloc _).alloc _).alloc _
  have B9 : Blk w0 (w.heap.size + 1 + 1) 48 #[.int .i64 b.x.lo, .int .i64 b.x.hi, .int .i64 b.y.lo, .int .i64 b.y.hi, .int .i64 b.u.lo, .int .i64 b.u.hi, .int .i64 b.v.lo, .int .i64 b.v.hi] := by rw [hw0]; exact ((Blk.newAt (by simp)).alloc _).alloc _
  have B10 : Blk w0 (w.heap.size + 1 + 1 + 1) 32 #[.int .i64 0, .int .i64 0, .int .i64 0, .int .i64 0] := by rw [hw0]; exact (Blk.newAt (by simp)).alloc _
  have B11 : Blk w0 (w.heap.size + 1 + 1 + 1 + 1) 32 #[.int .i64 0, .int .i64 0, .int .i64 0, .int .i64 0] := by rw [hw0]; exact Blk.newAt (by simp)
  have E0 : Ext w w0 := by rw [hw0]; exact ((((Ext.alloc0 _ _).alloc _).alloc _).alloc _).alloc _
  clear hw0
  have c_B5 := B5.cell; have f_B5 := B5.frozen; have l_B5 := B5.lt; have c_B7 := B7.cell; have f_B7 := B7.frozen; have l_B7 := B7.lt; have c_B9 := B9.cell; have f_B9 := B9.frozen; have l_B9 := B9.lt; have c_B10 := B10.cell; have f_B10 := B10.frozen; have l_B10 := B10.lt; have c_B11 := B11.cell; have f_B11 := B11.frozen; have l_B11 := B11.lt
  go_wp2_with fail
  clear c_B5 f_B5 l_B5 c_B7 f_B7 l_B7 c_B9 f_B9 l_B9 c_B10 f_B10 l_B10 c_B11 f_B11 l_B11
  go_loopw [17] (fun i wr => ∃ (k : Nat) (o : Ar), k ≤ k0 ∧ i = .int .i64 k ∧ Hid ((L.drop k).foldl (fun o m => sumA o (doesA l home m body tick b)) o = T) ∧ Hid (SmA (k * 4503599627370496) o) ∧ Hid (Blk wr (w.heap.size + 1 + 1 + 1 + 1) 32 #[.int .i64 o.x.lo, .int .i64 o.x.hi, .int .i64 o.y.lo, .int .i64 o.y.hi]) ∧
    Hid (Blk wr (w.heap.size + 1 + 1 + 1) 32 #[.int .i64 0, .int .i64 0, .int .i64 0, .int .i64 0]) ∧ Hid (Blk wr w.heap.size 24 #[.slice A n c, .int .i64 home]) ∧ Hid (Blk wr (w.heap.size + 1) 26 #[.int .i64 body.lo, .int .i64 body.hi]) ∧ Hid (Blk wr (w.heap.size + 1 + 1) 48 #[.int .i64 b.x.lo, .int .i64 b.x.hi, .int .i64 b.y.lo, .int .i64 b.y.hi, .int .i64 b.u.lo, .int .i64 b.u.hi, .int .i64 b.v.lo, .int .i64 b.v.hi]) ∧ Ext w wr) (fun i _ => k0 - (intOf i).toNat)
  case atStart => exact ⟨0, zeroA, Nat.zero_le _, rfl, HT, Lib.hid (by simp [SmA, Sm, zeroA]), Lib.hid B11, Lib.hid B10, Lib.hid B5, Lib.hid B7, Lib.hid B9, E0⟩
  case round =>
    obtain ⟨k, o, hk, rfl, HI, HO, HB11, HB10, HB5, HB7, HB9, E⟩ := hrel
    clear B5 B7 B9 B10 B11 E0
    have B11 := HB11.out
    have B10 := HB10.out
    have B5 := HB5.out
    have B7 := HB7.out
    have B9 := HB9.out
    clear HB11 HB10 HB5 HB7 HB9
    obtain ⟨⟨o1, o2⟩, o3, o4⟩ := o
    dsimp only at B11
    by_cases hlt : k < k0
    · obtain ⟨mb, off, x, rfl, HDr, hxm, hx⟩ := (HM.out _ E).one hlt
      obtain ⟨m0, m1, m2, m3, m4, m5, m6, m7, m8, m9, m10, m11, m12, m13⟩ := hx
      have hbl : mb < wr.heap.size := World.block_lt_of_cell? wr _ m0
      have hi := HI.out
      rw [HDr.out, List.foldl_cons] at hi
      have hs := HSm.out x hxm
      have HDx := Lib.hid (HD.out x hxm)
      generalize doesA l home x body tick b = R at *
      obtain ⟨⟨r1, r2⟩, r3, r4⟩ := R
      dsimp only [arV, sumA, sumS] at hi HDx
      have Hi := Lib.hid hi
      have hsn : SmA ((k + 1 : Nat) * 4503599627370496) ⟨⟨o1 + r1, o2 + r2⟩, o3 + r3, o4 + r4⟩ := (HO.out.add hs).mono (by push_cast; omega)
      have HSN := Lib.hid hsn
      have ho := HO.out.mono (show (k : Int) * 4503599627370496 ≤ 72057594037927936 by have hkk := hlen.out; have hnn := hn60.out; omega)
      have HO2 := Lib.hid ho
      have HS2 := Lib.hid (hs.mono (show (4503599627370496 : Int) ≤ 72057594037927936 by omega))
      clear ho HO
      clear hi hsn hs HSm HD
      have c_B5 := B5.cell; have f_B5 := B5.frozen; have l_B5 := B5.lt; have c_B7 := B7.cell; have f_B7 := B7.frozen; have l_B7 := B7.lt; have c_B9 := B9.cell; have f_B9 := B9.frozen; have l_B9 := B9.lt; have c_B10 := B10.cell; have f_B10 := B10.frozen; have l_B10 := B10.lt; have c_B11 := B11.cell; have f_B11 := B11.frozen; have l_B11 := B11.lt
      go_wp2_with fail
      refine (HDx.out _ ext_by).mono ?_
      rintro e w1 ⟨rfl, h1⟩
      clear c_B5 f_B5 l_B5 c_B7 f_B7 l_B7 c_B9 f_B9 l_B9 c_B10 f_B10 l_B10 c_B11 f_B11 l_B11
      have E1 : Ext w w1 := ext_by
      have E2 : Ext wr w1 := (Ext.alloc0 _ _).trans h1
      have hk1 : k + 1 ≤ k0 := hlt
      have m0' := E2.cell m0
      replace B11 := (B11.alloc _).ext h1
      replace B10 := (B10.alloc _).ext h1
      replace B5 := (B5.alloc _).ext h1
      replace B7 := (B7.alloc _).ext h1
      replace B9 := (B9.alloc _).ext h1
      clear h1 m1 m2 m3 m4 m5 m6 m7 m8 m9 m10 m11 m12 m13 m0 HDx E2 E
      have c_B11 := B11.cell; have f_B11 := B11.frozen; have l_B11 := B11.lt; have c_B10 := B10.cell; have f_B10 := B10.frozen; have l_B10 := B10.lt; have c_B5 := B5.cell; have f_B5 := B5.frozen; have l_B5 := B5.lt; have c_B7 := B7.cell; have f_B7 := B7.frozen; have l_B7 := B7.lt; have c_B9 := B9.cell; have f_B9 := B9.frozen; have l_B9 := B9.lt
      go_wp2_with fail
      refine name_world _ ?_
      intro W0 hW0
      have C14 : Blk W0 w1.heap.size 32 #[.int .i64 r1, .int .i64 r2, .int .i64 r3, .int .i64 r4] := by rw [hW0]; exact Blk.newAt rfl
      have C11 : Blk W0 (w.heap.size + 1 + 1 + 1 + 1) 32 #[.int .i64 o1, .int .i64 o2, .int .i64 o3, .int .i64 o4] := by rw [hW0]; exact B11.alloc _
      have C10 : Blk W0 (w.heap.size + 1 + 1 + 1) 32 #[.int .i64 0, .int .i64 0, .int .i64 0, .int .i64 0] := by rw [hW0]; exact B10.alloc _
      have C5 : Blk W0 w.heap.size 24 #[.slice A n c, .int .i64 home] := by rw [hW0]; exact B5.alloc _
      have C7 : Blk W0 (w.heap.size + 1) 26 #[.int .i64 body.lo, .int .i64 body.hi] := by rw [hW0]; exact B7.alloc _
      have C9 : Blk W0 (w.heap.size + 1 + 1) 48 #[.int .i64 b.x.lo, .int .i64 b.x.hi, .int .i64 b.y.lo, .int .i64 b.y.hi, .int .i64 b.u.lo, .int .i64 b.u.hi, .int .i64 b.v.lo, .int .i64 b.v.hi] := by rw [hW0]; exact B9.alloc _
      have E0 : Ext w W0 := by rw [hW0]; exact E1.alloc _
      clear c_B11 f_B11 l_B11 c_B10 f_B10 l_B10 c_B5 f_B5 l_B5 c_B7 f_B7 l_B7 c_B9 f_B9 l_B9
      clear hW0 B11 B10 B5 B7 B9
      obtain ⟨X1, X2⟩ := HO2.out
      obtain ⟨Y1, Y2⟩ := HS2.out
      clear HO2 HS2 m0'
      have c_C14 := C14.cell; have f_C14 := C14.frozen; have l_C14 := C14.lt; have c_C11 := C11.cell; have f_C11 := C11.frozen; have l_C11 := C11.lt
      refine wp_region_freeL 13 (by kernel_rfl) (by kernel_rfl) ?_
      simp only [List.take_succ_cons, List.take_zero, List.drop_succ_cons, List.drop_zero]
      (repeat' (first | (refine fb_off (by rfl) (by rfl) ?_; simp only [putX]) | (apply fb_op; rfl; rfl; (intro w1 h1; obtain ⟨hc, hf, hz⟩ := bcell h1; go_simp; (try go_bits); (first | exact ⟨rfl, Ext.refl _⟩)); simp only [putX]) | (apply fb_slice; rfl; rfl; (intro w1 h1; obtain ⟨hc, hf, hz⟩ := bcell h1; go_simp; first | rfl | exact ⟨⟨rfl, rfl⟩, rfl⟩)) | (apply fb_use; rfl; (intro u; rfl); (rintro u w1 h1 ⟨b, rfl, hB⟩; obtain ⟨hc, hf, hz⟩ := bcell h1; go_simp; (first | exact ⟨rfl, Ext.refl _⟩ | (apply gives_call; first | (go_at_call 202; exact HSU.out _ _ _ _ _ _ _ _ hB (by assumption) (by assumption))) | (go_invoke; go_simp; apply gives_call; first | (go_at_call 202; exact HSU.out _ _ _ _ _ _ _ _ hB (by assumption) (by assumption))))); simp only [putX]) | (refine fb_split rfl rfl (fun hx => ?_) (fun hx => ?_) <;> simp only [hx])))
      refine fb_nil ?_
      (intro val w6 h6 hg; clear hg; simp only [putV, Act.put, List.setIfInBounds_toArray, List.set_cons_zero, List.set_cons_succ])
      obtain ⟨hc_w6, hf_w6, hz_w6⟩ := bcell h6; (try simp only [szA] at hz_w6); (try have := wz0 w w6); (try have := wz1 w w6); (try have := wz2 w w6); (try have := wz3 w w6); (try have := wz4 w w6)
      go_wp2_with fail
      clear c_C14 f_C14 l_C14 c_C11 f_C11 l_C11
      have D11 := C11.ext h6
      go_roundw
      case rel =>
        refine ⟨k + 1, ⟨⟨o1 + r1, o2 + r2⟩, o3 + r3, o4 + r4⟩, hk1, by go_num, Hi, HSN, Lib.hid ((((D11.set_ 0 _).set_ 1 _).set_ 2 _).set_ 3 _), Lib.hid ?_, Lib.hid ?_, Lib.hid ?_, Lib.hid ?_, (((((E0.trans h6).set (by dsimp only; omega) _).set (by dsimp only; omega) _).set (by dsimp only; omega) _).set (by dsimp only; omega) _)⟩
        · exact ((((C10.ext h6).far (by dsimp only; omega) _).far (by dsimp only; omega) _).far (by dsimp only; omega) _).far (by dsimp only; omega) _
        · exact ((((C5.ext h6).far (by dsimp only; omega) _).far (by dsimp only; omega) _).far (by dsimp only; omega) _).far (by dsimp only; omega) _
        · exact ((((C7.ext h6).far (by dsimp only; omega) _).far (by dsimp only; omega) _).far (by dsimp only; omega) _).far (by dsimp only; omega) _
        · exact ((((C9.ext h6).far (by dsimp only; omega) _).far (by dsimp only; omega) _).far (by dsimp only; omega) _).far (by dsimp only; omega) _
      case measure => simp [intOf]; omega
    · have hkn : k = k0 := by omega
      subst hkn
      have hi := HI.out
      rw [hlen.out, List.drop_length, List.foldl_nil] at hi
      subst hi
      have c_B11 := B11.cell; have f_B11 := B11.frozen; have l_B11 := B11.lt; have c_B10 := B10.cell; have f_B10 := B10.frozen; have l_B10 := B10.lt
      go_wp2_with fail
      (try dsimp only); repeat' (first | go_values | go_skip | go_guarded | go_step | go_upon | go_in | go_at_K)
      refine name_world _ ?_
      intro W9 hW9
      have Q8 : Blk W9 (w.heap.size + 1 + 1 + 1) 32 #[.int .i64 o1, .int .i64 o2, .int .i64 o3, .int .i64 o4] := by rw [hW9]; exact blk_set2 (blk_set2 B10 rfl) rfl
      have QE : Ext w W9 := by rw [hW9]; exact ext_set2 (ext_set2 E (by omega)) (by omega)
      clear hW9
      have c_Q8 := Q8.cell; have f_Q8 := Q8.frozen; have l_Q8 := Q8.lt
      (try simp only [Exit.inBlock, Exit.then]); apply bodyPost_ret; (focus (simp only [results, Tryz.results201]; go_simp; try rfl)); rfl
      exact ⟨rfl, QE⟩
end
end Go.Proofs.YtiladlangkjoiaaGreat
