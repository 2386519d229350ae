/- Failure sets, handed out: the program. No condition. Failure sets, handed out: the iterator. No condition. What is handed out, collected: slices.Collect at lists of numbers; the failure sets of a campaign. No condition. The failure sets of a campaign: the program. No condition. -/
import Derived.Test.YtiladlangkjoiaaGreatFlies
import Derived.Test.YtiladlangkjoiaaGreatIterR
import Derived.Test.YtiladlangkjoiaaGreatOwnRows
import Derived.Test.YtiladlangkjoiaaGreatCloneInt
import Derived.Test.YtiladlangkjoiaaGreatOwnInts
import Derived.Stop.RegionWithIn
import Derived.Laws.EntriesVeiled
import Derived.Test.YtiladlangkjoiaaGreatScopeIn
import Derived.Test.YtiladlangkjoiaaGreatExcludes3
import Derived.Test.YtiladlangkjoiaaGreatPushCamp
namespace Go.Proofs.YtiladlangkjoiaaGreat
open Go.RowKit Go.Shelf
attribute [local go_sem] Oper.semAt_some

theorem OwnInts.mono {base base' : Nat} {w : World} {v : Value} {l : List Int} (h : OwnInts base w v l) (hb : base' ≤ base) : OwnInts base' w v l := own_mono h hb
theorem KpE.ints {ts : List TypeId} {nb lr base : Nat} {W W' : World} (h : KpE ts nb lr W W') (ht : 3 ∉ ts) (hl : lr < base) {v : Value} {l : List Int} (ho : OwnInts base W v l) : OwnInts base W' v l := by
  refine ⟨ho.1, ?_⟩
  rcases ho.2 with hn | ⟨g, cap, cur, rfl, hbg, hg, rest⟩
  · exact .inl hn
  · exact .inr ⟨g, cap, cur, rfl, hbg, h.blk (by omega) ht hg, rest⟩
theorem ints_from {B base : Nat} {W W' : World} {row : Option Nat} {v : Value} {L : List Int} (ho : OwnInts base W v L) (hgr : W.grownBy W' row) (hr : ∀ r, row = some r → B ≤ r ∧ ∃ o : Obj, W.heap[r]? = some o ∧ o.isCells = false) : OwnInts base W' v L := by
  refine ⟨ho.1, ?_⟩
  rcases ho.2 with hn | ⟨g, cap, cur, rfl, hbg, hg, rest⟩
  · exact .inl hn
  · refine .inr ⟨g, cap, cur, rfl, hbg, (hgr.block g (Array.getElem?_eq_some_iff.1 hg).1 (fun e => ?_)).trans hg, rest⟩
    obtain ⟨_, o, ho, hc⟩ := hr g e.symm
    rw [hg] at ho
    injection ho with ho
    rw [← ho] at hc
    cases hc
structure FlV where
  A : Option Addr
  n : Nat
  c : Nat
  F : List Int
abbrev flW (x : FlV) : Value := .slice x.A x.n x.c
def flE (x : FlV) : Array Value := #[.slice x.A x.n x.c]
abbrev setsOf (xs : List FlV) : List (List Int) := xs.map (·.F)
def flX (bs : Nat) (L : List (List Int)) (pre : List FlV) (x : FlV) (W : World) : Prop := (setsOf pre ++ [x.F]) <+: L ∧ OwnInts bs W (flW x) x.F
theorem flX_from (B bs : Nat) (L : List (List Int)) (x : FlV) : OwnFrom B (fun pre W => flX bs L pre x W) := fun _ _ _ _ ⟨h1, h2⟩ hgr hr => ⟨h1, ints_from h2 hgr hr⟩
def FlB (c : Camp) (A1 : Option Addr) (n1 c1 : Nat) (A2 : Option Addr) (n2 c2 : Nat) (lr gc gy ga : Nat) (W : World) : Prop :=
  campBlk W gc A1 n1 c1 A2 n2 c2 c ∧ Blk W gy 78 #[.func (.yield lr) #[] #[]] ∧
  Blk W ga 115 #[.func (.func 195) #[] #[.pointer (some ⟨gc, 0, none⟩), .pointer (some ⟨gy, 0, none⟩), .pointer (some ⟨ga, 0, none⟩)]]
section
variable {c : Camp} {A1 : Option Addr} {n1 c1 : Nat} {A2 : Option Addr} {n2 c2 lr gc gy ga : Nat} {W W' : World}
theorem FlB.ext (h : FlB c A1 n1 c1 A2 n2 c2 lr gc gy ga W) (e : Ext W W') : FlB c A1 n1 c1 A2 n2 c2 lr gc gy ga W' := ⟨h.1.ext e, h.2.1.ext e, h.2.2.ext e⟩
theorem FlB.kp (h : FlB c A1 n1 c1 A2 n2 c2 lr gc gy ga W) {nb : Nat} (k : KpE [56, 79] nb lr W W') (h1 : gc ≠ lr) (h2 : gy ≠ lr) (h3 : ga ≠ lr) : FlB c A1 n1 c1 A2 n2 c2 lr gc gy ga W' :=
  ⟨k.blk h1 (by decide) h.1, k.blk h2 (by decide) h.2.1, k.blk h3 (by decide) h.2.2⟩
end
theorem tg_calls {P : Program} {Q : Exit → Act → World → Prop} {o : Oper} {T : List Oper} {a : Act} {F : World → Prop} {f : FuncId} {args : Array Value} (hg : o.guard = none) (hrun : ∀ w, F w → (execOp a.eval o).run P w = .ok (.enter f args) w)
    (hc : ∀ w, F w → Calls P f args w fun e w' => ∃ v, e = .returned v ∧ TG P (fun _ => True) Q T (a.put o.dst v) (Ext w')) : TG P (fun _ => True) Q (o :: T) a F :=
  ⟨hg, fun w hw => by rw [hrun w hw]; exact (hc w hw).mono fun e w' ⟨v, he, h⟩ => ⟨v, he, _, Stable.ext _, fun _ _ => trivial, Ext.refl _, h⟩⟩
theorem grow_step {hi n : Nat} {l : List Int} {k : Nat} (h : k < hi) (p : List Int → Bool) : (growM hi (n + 1) l k).filter p = (growM hi n (l ++ [(k : Int)]) (k + 1)).filter p ++ (growM hi (n + 1) l (k + 1)).filter p := by
  have e : hi - k = (hi - (k + 1)) + 1 := by omega
  rw [growM, e, List.range'_succ, List.flatMap_cons, List.filter_append]
  rfl
theorem grow_end {hi n : Nat} {l : List Int} (p : List Int → Bool) : (growM hi (n + 1) l hi).filter p = [] := by
  rw [growM, Nat.sub_self]; rfl
section
variable (c : Camp) (A1 : Option Addr) (n1 c1 : Nat) (A2 : Option Addr) (n2 c2 : Nat) (bs B lr gc gy ga : Nat) (L : List (List Int)) (J Jx : List FlV → World → Prop) (w0 : World) (q : Nat)
def AddPost (pre : List FlV) (X : List (List Int)) (W : World) (e : Ending) (W' : World) : Prop :=
  (e = .returned (.bool true) ∧ ∃ pre', setsOf pre' = setsOf pre ++ X ∧ J pre' W' ∧ KpE [56, 79] w0.heap.size lr W W') ∨ (e = .returned (.bool false) ∧ ∃ pre', Jx pre' W')
def AddSpec (more : Nat) : Prop :=
  ∀ (A : Option Addr) (m cp : Nat) (F : List Int) (k : Nat) (pre : List FlV) (rest : List (List Int)) (W : World), Ext w0 W → B ≤ W.heap.size → FlB c A1 n1 c1 A2 n2 c2 lr gc gy ga W → OwnInts B W (.slice A m cp) F → (∀ i ∈ F, 0 ≤ i ∧ i < (c.missions.length : Int)) → F.length + more ≤ 90 → k ≤ n1 → J pre W →
      setsOf pre ++ ((growM n1 more F k).filter (countsM (resv c)) ++ rest) = L →
      Calls Tryz.prog 195 #[.slice A m cp, .int .i64 k, .int .i64 more, .pointer (some ⟨gc, 0, none⟩), .pointer (some ⟨gy, 0, none⟩), .pointer (some ⟨ga, 0, none⟩)] W
        (AddPost lr J Jx w0 pre ((growM n1 more F k).filter (countsM (resv c))) W)
def AddRound : Prop :=
  ∀ pre x W1, J pre W1 → flX bs L pre x W1 → YieldAt Fence.wide q Tryz.prog lr #[.slice x.A x.n x.c] W1 fun e W' =>
      (e = .returned (.bool true) ∧ J (pre ++ [x]) W' ∧ KpE [56, 79] w0.heap.size lr W1 W') ∨ (e = .returned (.bool false) ∧ Jx (pre ++ [x]) W')
set_option maxRecDepth 20000 in
set_option maxHeartbeats 4000000 in
theorem add0_c (hm : Miss w0 A1 n1 c.missions) (hbs : bs ≤ B) (hJ : OwnFrom B J) (hwB : w0.heap.size ≤ B) (hY : AddRound bs lr L J Jx w0 q) : AddSpec c A1 n1 c1 A2 n2 c2 B lr gc gy ga L J Jx w0 0 := by
  intro A m cp F k pre rest W hE hz hB ho hi hlen hk hj hL
  have hsl : Ints W A m F := by
    obtain ⟨A', c', e1, h⟩ := ho.sl
    injection e1 with e1 e2 e3
    rw [e1, e2]; exact h
  have HC := Lib.hid fun V (hV : Ext W V) => pCounts_c c A1 n1 c1 A2 n2 c2 A m cp F V (Miss.ext (hE.trans hV) hm) (Ints.ext hV hsl) hi
  have HCl := Lib.hid fun V (hV : Ext W V) => CloneInt_c A m cp F V (Ints.ext hV hsl) (by have := hsl.len; omega)
  have HYY : Hid (countsM (resv c) F = true → ∀ v V, Ext W V → OwnInts W.heap.size V v F → ∃ fn tmps assign body, (∃ A' c', v = .slice A' F.length c' ∧ (Instr.yield lr #[.slice A' F.length c']).run Tryz.prog V = .ok (.round lr fn tmps assign body) V ∧ RoundIn Fence.wide q Tryz.prog lr fn tmps assign body V fun e W' => ∃ b, e = .returned (.bool b) ∧
      ((b = true ∧ ∃ x : FlV, x.F = F ∧ J (pre ++ [x]) W' ∧ KpE [56, 79] w0.heap.size lr W W') ∨ (b = false ∧ ∃ pre', Jx pre' W')))) := by
    intro hcn v V hV hv
    rw [growM, List.filter_cons, hcn] at hL
    simp only [if_true, List.filter_nil, List.cons_append, List.nil_append] at hL
    obtain ⟨A', c', rfl, _⟩ := hv.sl
    obtain ⟨fn, tmps, assign, body, hy, hR⟩ := hY pre ⟨A', F.length, c', F⟩ V (OwnFrom.ext hJ hj hV) ⟨⟨rest, by rw [← hL]; simp [setsOf]⟩, hv.mono (by omega)⟩
    refine ⟨fn, tmps, assign, body, A', c', rfl, hy, hR.mono ?_⟩
    rintro e W' (⟨rfl, h1, h2⟩ | ⟨rfl, h1⟩)
    · exact ⟨true, rfl, .inl ⟨rfl, _, rfl, h1, (KpE.of_ext hV (by omega)).trans h2⟩⟩
    · exact ⟨false, rfl, .inr ⟨rfl, _, h1⟩⟩
  obtain ⟨hb1, hb2, hb3⟩ := hB
  unfold AddPost
  rw [growM, List.filter_cons] at hL ⊢
  generalize countsM (resv c) F = cn at *
  clear hsl hm hi
  have c_hb1 := hb1.cell; have f_hb1 := hb1.frozen; have l_hb1 := hb1.lt; have c_hb2 := hb2.cell; have f_hb2 := hb2.frozen; have l_hb2 := hb2.lt; have c_hb3 := hb3.cell; have f_hb3 := hb3.frozen; have l_hb3 := hb3.lt
  cases cn
  · simp only [Bool.false_eq_true, if_false, List.filter_nil, List.nil_append, List.append_nil] at hL ⊢
    go_enter Tryz.func195, Tryz.ntmps195
    go_wp2_with fail
    refine wp_region_text (by kernel_rfl) (by kernel_rfl) ?_
    (repeat' (first | (refine bl_off (by rfl) ?_; simp only [putX]) | (apply bl_op; rfl; (intro w1 h1; obtain ⟨hc, hf, hz⟩ := bcell h1; go_simp; (try go_bits); (first | exact ⟨rfl, Ext.refl _⟩ | (apply gives_call; first | (go_at_call 196; exact HC.out _ ext_by)) | (go_invoke; go_simp; apply gives_call; first | (go_at_call 196; exact HC.out _ ext_by)))); simp only [putX]) | (refine bl_split rfl rfl (fun hx => ?_) (fun hx => ?_) <;> simp only [hx])))
    refine bl_nil ?_
    intro w2 h2
    obtain ⟨hc_w2, hf_w2, hz_w2⟩ := bcell h2; (try simp only [szA] at hz_w2); (try have := wz0 w w2); (try have := wz1 w w2); (try have := wz2 w w2); (try have := wz3 w w2); (try have := wz4 w w2)
    go_wp2_with fail
    go_ret
    have E2 : Ext W w2 := ext_by
    exact .inl ⟨rfl, pre, by simp, OwnFrom.ext hJ hj E2, KpE.of_ext E2 (by omega)⟩
  · simp only [if_true, List.filter_nil] at hL ⊢
    go_enter Tryz.func195, Tryz.ntmps195
    go_wp2_with fail
    refine (wpIn_wide (n := q + 1)).1 ?_
    gi_region_with (first
      | (refine ⟨trivial, ?_⟩; (try refine ⟨fun h => (by cases h), ?_⟩); gi_at_call 196; refine (callsIn_wide.2 (HC.out _ ext_by)).mono ?_; rintro e w2 ⟨rfl, h2⟩; have E2 : Ext W w2 := ext_by; have k2 := hb2.ext E2; have ck2 := k2.cell; have lk2 := k2.lt)
      | (refine ⟨trivial, ?_⟩; (try refine ⟨fun h => (by cases h), ?_⟩); gi_at_call 197; refine (callsIn_wide.2 (HCl.out _ ext_by)).mono ?_; rintro e w3 ⟨v3, rfl, ho3, h3⟩; have E3 : Ext W w3 := ext_by; have k3 := hb2.ext E3; have ck3 := k3.cell; have lk3 := k3.lt; obtain ⟨fn, tmps, assign, body, A3, c3, rfl, hy, hR⟩ := HYY.out trivial v3 w3 E3 (ho3.mono E2.size))
      | ((first | refine hR.mono ?_ | refine ⟨fun h => (by cases h), hR.mono ?_⟩); rintro e w4 ⟨b, rfl, hb4⟩))
    all_goals go_wp2_with fail
    all_goals go_ret
    all_goals
      rcases hb4 with ⟨rfl, x, h1, h2, h3⟩ | ⟨rfl, pre', h1⟩
      · exact .inl ⟨rfl, pre ++ [x], by simp [setsOf, h1], h2, h3⟩
      · exact .inr ⟨rfl, _, h1⟩
set_option maxRecDepth 20000 in
set_option maxHeartbeats 4000000 in
theorem addS_c (hm : Miss w0 A1 n1 c.missions) (h6 : n1 ≤ 6) (hlr : lr < B) (hc : gc ≠ lr) (hy : gy ≠ lr) (ha : ga ≠ lr) (hJ : OwnFrom B J) (hJx : OwnFrom B Jx) (hwB : w0.heap.size ≤ B) (more : Nat)
    (IH : AddSpec c A1 n1 c1 A2 n2 c2 B lr gc gy ga L J Jx w0 more) : AddSpec c A1 n1 c1 A2 n2 c2 B lr gc gy ga L J Jx w0 (more + 1) := by
  intro A m cp F k pre rest W hE hz hB ho hi hlen hk hj hL
  have hsl : Ints W A m F := by
    obtain ⟨A', c', e1, h⟩ := ho.sl
    injection e1 with e1 e2 e3
    rw [e1, e2]; exact h
  have hmF := hsl.len
  have HREC := Lib.hid IH
  have hm0 : ¬ (((more + 1 : Nat) : Int) = 0) := by omega
  have hl1 := Lib.hid hm.len
  unfold AddPost
  obtain ⟨ic, hic, hc0', hc1', hc2'⟩ := info_parts info_int
  have hcall : ∀ (xs : Array Value) (W : World), (callFunc 195 xs).run Tryz.prog W = .ok (.enter 195 xs) W := Tryz.call195
  have HG : Hid (∀ j, j < n1 → (growM n1 (more + 1) F j).filter (countsM (resv c)) = (growM n1 more (F ++ [(j : Int)]) (j + 1)).filter (countsM (resv c)) ++ (growM n1 (more + 1) F (j + 1)).filter (countsM (resv c))) := fun j hj => grow_step hj _
  have HGE : Hid ((growM n1 (more + 1) F n1).filter (countsM (resv c)) = []) := grow_end _
  have HE0 := Lib.hid hE
  have HO0 := Lib.hid ho
  have HB0 := Lib.hid hB
  have HJ0 := Lib.hid hj
  have HL0 : Hid (setsOf pre ++ ((growM n1 (more + 1) F k).filter (countsM (resv c)) ++ rest) = L) := hL
  have HI := Lib.hid hi
  have HJ := Lib.hid hJ
  have HJx := Lib.hid hJx
  have HK := Lib.hid (show gc ≠ lr ∧ gy ≠ lr ∧ ga ≠ lr from ⟨hc, hy, ha⟩)
  clear hL hE ho hB hj hi hJ hJx hsl hc hy ha IH
  generalize (growM n1 (more + 1) F) = GM at *
  go_enter Tryz.func195, Tryz.ntmps195
  go_wp2_with fail
  go_loopw [10] (fun i wr => ∃ (j : Nat) (pr : List FlV), k ≤ j ∧ j ≤ n1 ∧ i = .int .i64 j ∧ Hid (setsOf pr ++ ((GM j).filter (countsM (resv c)) ++ rest) = L) ∧ Hid (J pr wr) ∧ Hid (FlB c A1 n1 c1 A2 n2 c2 lr gc gy ga wr) ∧ Hid (OwnInts B wr (.slice A m cp) F) ∧ Hid (KpE [56, 79] w0.heap.size lr W wr) ∧ Hid (Ext w0 wr) ∧ B ≤ wr.heap.size) (fun i _ => n1 - (intOf i).toNat)
  case atStart => exact ⟨k, pre, Nat.le_refl _, hk, rfl, HL0, HJ0, HB0, HO0, Lib.hid (KpE.refl _ _ _ _), HE0, hz⟩
  case round =>
    obtain ⟨j, pr, hj1, hj2, rfl, HL1, HJ1, HB1, HO1, HK1, HE1, hz1⟩ := hrel
    obtain ⟨b1, b2, b3⟩ := HB1.out
    have c_b1 := b1.cell; have f_b1 := b1.frozen; have l_b1 := b1.lt; have c_b3 := b3.cell; have f_b3 := b3.frozen; have l_b3 := b3.lt
    by_cases hlt : j < n1
    · obtain ⟨b2', b3'⟩ : Hid (Blk wr gy 78 #[.func (.yield lr) #[] #[]]) ∧ Hid (Ints wr A m F) := ⟨b2, by
        obtain ⟨A', c', e1, h⟩ := HO1.out.sl
        injection e1 with e1 e2 e3
        rw [e1, e2]; exact h⟩
      have HCl := Lib.hid fun V (hV : Ext wr V) => CloneInt_c A m cp F V (Ints.ext hV b3'.out) (by omega)
      have hl2 := HL1.out
      rw [HG.out j hlt, List.append_assoc] at hl2
      have HL2 := Lib.hid hl2
      have hij : ∀ i ∈ F ++ [(j : Int)], 0 ≤ i ∧ i < (c.missions.length : Int) := by
        intro i hi
        rcases List.mem_append.1 hi with h | h
        · exact HI.out i h
        · rw [List.mem_singleton.1 h, ← hl1.out]; omega
      have HIJ := Lib.hid hij
      clear hl2 hij HG HL1 b2 b3'
      go_wp2_with fail
      refine wp_region_relT [1, 3, 6, 7, 8, 9] [⟨0, [], none⟩, ⟨2, [], none⟩, ⟨4, [], none⟩, ⟨5, [2, 4], some ([2, 4], [0])⟩]
        [(⟨0, [], none⟩, fun _ v _ => v = .func (.func 195) #[] #[.pointer (some ⟨gc, 0, none⟩), .pointer (some ⟨gy, 0, none⟩), .pointer (some ⟨ga, 0, none⟩)]),
         (⟨2, [], none⟩, fun _ v w => OwnInts wr.heap.size w v F),
         (⟨4, [], none⟩, fun _ v w => ∃ b, v = .slice (some ⟨b, 0, none⟩) 1 1 ∧ Blk w b 3 #[.int .i64 j]),
         (⟨5, [2, 4], some ([2, 4], [0])⟩, fun _ v w => OwnInts wr.heap.size w v (F ++ [(j : Int)]))]
        [10, 11] (fun _ => True) (Ext wr) (Stable.ext _) (fun _ _ => trivial) (Ext.drew (Ext.refl _)) (by kernel_rfl) rfl (by kernel_rfl) ?_
      simp only [pick, List.drop_succ_cons, List.drop_zero]
      repeat' (apply bl_op; rfl; (intro w1 _; go_simp; (try go_bits); exact ⟨rfl, Ext.refl _⟩); simp only [putX])
      refine bl_nil ?_
      simp only [obF, finF, useF, useEq, spoilF, keepF, getG, Nat.reduceEqDiff, reduceIte, putP, pick1, List.drop_succ_cons, List.drop_zero, List.map_cons, List.map_nil, spoils, List.all_cons, List.all_nil, List.contains_cons, List.contains_nil, Nat.reduceBEq, Bool.or_false, Bool.or_true, Bool.not_true, Bool.not_false, Bool.and_true, Bool.and_false]
      refine ⟨⟨?_, ?_, ?_, ?_, trivial⟩, ?_⟩
      · refine ⟨fun _ _ _ _ h _ => h, fun _ _ _ _ _ h => h, fun val w hw _ => ?_⟩
        have k3 := b3.ext hw
        have ck3 := k3.cell
        have lk3 := k3.lt
        exact runs_val (by go_simp) ⟨rfl, Ext.refl _⟩
      · refine ⟨fun _ _ _ _ h e => OwnInts.ext h e, fun _ _ _ _ _ h => h, fun val w hw _ => ?_⟩
        refine runs_call (f := 197) (args := #[.slice A m cp]) (by go_simp) ((HCl.out w hw).mono ?_)
        rintro e w1 ⟨v, rfl, ho, h⟩
        exact ⟨v, rfl, ho.mono hw.size, h⟩
      · refine ⟨fun _ _ _ _ ⟨b, h1, h2⟩ e => ⟨b, h1, h2.ext e⟩, fun _ _ _ _ _ h => h, fun val w hw _ => ?_⟩
        exact runs_to (w1 := w.alloc (.cells #[.int .i64 (j : Int)] 3)) (by go_simp) ⟨⟨_, rfl, Blk.new _ _ _⟩, Ext.alloc0 _ _⟩
      · refine ⟨fun _ _ _ _ h e => OwnInts.ext h e, fun _ _ _ _ _ h => h, fun val w hw hu => ?_⟩
        obtain ⟨h2, ⟨b, h3, h4⟩, _⟩ := hu
        rw [h3]
        simp only [putX]
        refine runs_append (.tmp 33) (.tmp 35) 56 rfl wr.heap.size 3 ic _ 1 8 Tryz.underlying56 hic hc0' hc1' hc2' rfl (by decide) (val 2) F.length (F.flatMap intC) rfl h2 (some ⟨b, 0, none⟩) 1 1 [.int .i64 (j : Int)] rfl rfl (.inr ⟨_, rfl, fun q u hq => by rw [add_none, h4.cell, ← hq]; simp⟩) (by intro u hu; simp at hu; rcases hu with rfl; rfl) (by unfold maxLen; omega) (by omega) hw.size ?_
        intro v' w' ho hg _
        exact ⟨OwnInts.ofSnoc rfl ho, own_ext hw h2 hg (Nat.le_refl _), fun _ _ h => h, trivial⟩
      · intro val
        refine tg_calls (f := 195) (args := #[val 5, .int .i64 ((j + 1 : Nat) : Int), .int .i64 more, .pointer (some ⟨gc, 0, none⟩), .pointer (some ⟨gy, 0, none⟩), .pointer (some ⟨ga, 0, none⟩)]) rfl (fun w hw => ?_) (fun w hw => ?_)
        · obtain ⟨hw, h0, _⟩ := hw
          have h0 := h0 trivial
          simp only [putX]
          rw [h0]
          go_simp
        · obtain ⟨hw, _, _, _, h5, _⟩ := hw
          have h5 := h5 trivial
          obtain ⟨A5, c5, hv, hs5⟩ := h5.sl
          rw [hv] at h5 ⊢
          have hE5 : Ext w0 w := Below.trans HE1.out (hw.mono (by omega))
          refine (HREC.out A5 _ c5 (F ++ [(j : Int)]) (j + 1) pr ((GM (j + 1)).filter (countsM (resv c)) ++ rest) w hE5 (Nat.le_trans hz1 hw.size) (HB1.out.ext hw) (h5.mono hz1) HIJ.out (by rw [List.length_append, List.length_singleton]; omega) (by omega) (OwnFrom.ext HJ.out HJ1.out hw) HL2.out).mono ?_
          rintro e w' (⟨rfl, pr2, q1, q2, q3⟩ | ⟨rfl, pr2, q1⟩)
          · refine ⟨_, rfl, ?_⟩
            refine tg_val (v := .bool false) rfl (Stable.ext _) (fun _ _ => trivial) (fun w hw => by go_simp) ?_
            refine tg_nil ?_
            intro V hV
            have K3 : KpE [56, 79] w0.heap.size lr wr V := ((KpE.of_ext hw (by omega)).trans q3).trans (KpE.of_ext hV (by have := q3.2.1; have := hw.size; omega))
            have QL : Hid (setsOf pr2 ++ ((GM (j + 1)).filter (countsM (resv c)) ++ rest) = L) := by rw [q1, List.append_assoc]; exact HL2.out
            have QJ := Lib.hid (OwnFrom.ext HJ.out q2 hV)
            have QB := Lib.hid (HB1.out.kp K3 HK.out.1 HK.out.2.1 HK.out.2.2)
            have QO := Lib.hid (K3.ints (by decide) hlr HO1.out)
            have QK := Lib.hid (HK1.out.trans K3)
            have QE : Hid (Ext w0 V) := Below.trans HE1.out K3.1
            have QZ : B ≤ V.heap.size := Nat.le_trans hz1 K3.2.1
            clear hV q1 q2 q3 K3 hs5 hv h5 hE5 hw
            simp only [putX]
            go_wp2_with fail
            go_roundw
            case rel => exact ⟨j + 1, pr2, by omega, by omega, by go_num, QL, QJ, QB, QO, QK, QE, QZ⟩
            case measure => simp [intOf]; omega
          · refine ⟨_, rfl, ?_⟩
            refine tg_val (v := .bool true) rfl (Stable.ext _) (fun _ _ => trivial) (fun w hw => by go_simp) ?_
            refine tg_nil ?_
            intro V hV
            have QJ := Lib.hid (OwnFrom.ext HJx.out q1 hV)
            clear hV q1 hs5 hv h5 hE5 hw
            simp only [putX]
            go_wp2_with fail
            go_ret
            exact .inr ⟨rfl, _, QJ.out⟩
    · obtain rfl : j = n1 := by omega
      have hl2 := HL1.out
      rw [HGE.out, List.nil_append] at hl2
      have hfin : setsOf pr = setsOf pre ++ (GM k).filter (countsM (resv c)) := by
        have h := HL0.out
        rw [← hl2, ← List.append_assoc] at h
        exact (List.append_cancel_right h).symm
      have HFI := Lib.hid hfin
      clear hl2 hfin
      go_wp2_with fail
      go_ret
      exact .inl ⟨rfl, pr, HFI.out, HJ1.out, HK1.out⟩
theorem add_c (hm : Miss w0 A1 n1 c.missions) (h6 : n1 ≤ 6) (hlr : lr < B) (hbs : bs ≤ B) (hc : gc ≠ lr) (hy : gy ≠ lr) (ha : ga ≠ lr) (hJ : OwnFrom B J) (hJx : OwnFrom B Jx) (hwB : w0.heap.size ≤ B) (hY : AddRound bs lr L J Jx w0 q) :
    ∀ more, AddSpec c A1 n1 c1 A2 n2 c2 B lr gc gy ga L J Jx w0 more
  | 0 => add0_c c A1 n1 c1 A2 n2 c2 bs B lr gc gy ga L J Jx w0 q hm hbs hJ hwB hY
  | more + 1 => addS_c c A1 n1 c1 A2 n2 c2 B lr gc gy ga L J Jx w0 hm h6 hlr hc hy ha hJ hJx hwB more (add_c hm h6 hlr hbs hc hy ha hJ hJx hwB hY more)
end
end Go.Proofs.YtiladlangkjoiaaGreat

namespace Go.Proofs.YtiladlangkjoiaaGreat
open Go.RowKit Go.Shelf

def failsF (R : List Bool) (N k : Nat) : List (List Int) := (List.range' k (N + 1 - k)).flatMap fun n => (listsM R.length n 0).filter (countsM R)
theorem failsF_zero (R : List Bool) (N : Nat) : failsF R N 0 = failsM R N := by unfold failsF failsM; rw [List.range_eq_range', Nat.sub_zero]
theorem failsF_step {R : List Bool} {N k : Nat} (h : k ≤ N) : failsF R N k = (growM R.length k [] 0).filter (countsM R) ++ failsF R N (k + 1) := by
  unfold failsF
  rw [show N + 1 - k = (N + 1 - (k + 1)) + 1 by omega, List.range'_succ, List.flatMap_cons, growM_eq]
  congr 2
  simp
theorem failsF_end (R : List Bool) (N : Nat) : failsF R N (N + 1) = [] := by unfold failsF; rw [Nat.sub_self]; rfl
set_option maxRecDepth 20000 in
set_option maxHeartbeats 4000000 in
theorem fails_iter (c : Camp) (A1 : Option Addr) (n1 c1 : Nat) (A2 : Option Addr) (n2 c2 : Nat) (bs gc N : Nat) (w0 w : World) (hm : Miss w0 A1 n1 c.missions) (h6 : n1 ≤ 6) (hN : c.fails = (N : Int)) (hN3 : N ≤ 3) (hE : Ext w0 w) (hB : campBlk w gc A1 n1 c1 A2 n2 c2 c) (hbs : bs ≤ w.heap.size) :
    IterR Tryz.prog 194 #[.pointer (some ⟨gc, 0, none⟩)] flE (KpE [56, 79] w0.heap.size) (flX bs (failsM (resv c) N)) (fun xs _ => setsOf xs = failsM (resv c) N) (fun _ _ => True) w := by
  intro q l J Jx W hW hlp hJ hJx hY h0
  refine callsIn_wide.2 ?_
  show Calls Tryz.prog 194 #[.func (.yield l) #[] #[], .pointer (some ⟨gc, 0, none⟩)] W _
  obtain ⟨r, hr⟩ := hlp
  have hlB : l < W.heap.size := (Array.getElem?_eq_some_iff.1 hr).1
  have hgl : gc ≠ l := blk_no_loop (hB.ext hW) hr
  have hz := hW.size
  have hzE := hE.size
  have hY' : AddRound bs l (failsM (resv c) N) J Jx w0 (q - 1) := fun pre x W1 h1 h2 => by
    obtain ⟨fn, tmps, assign, body, hy, hR⟩ := hY pre x W1 h1 h2
    exact ⟨fn, tmps, assign, body, hy, hR.mono fun e W' h => h.imp id fun h => ⟨h.1, h.2.1⟩⟩
  have HA := Lib.hid fun gy ga (h1 : gy ≠ l) (h2 : ga ≠ l) more => add_c c A1 n1 c1 A2 n2 c2 bs W.heap.size l gc gy ga (failsM (resv c) N) J Jx w0 (q - 1) hm h6 hlB (by omega) hgl h1 h2 hJ hJx (by omega) hY' more
  have hln := hm.len
  have hrl : (resv c).length = n1 := by unfold resv; rw [List.length_map, ← hln]
  have HF0 := Lib.hid (failsF_zero (resv c) N)
  have HFS := Lib.hid fun k (hk : k ≤ N) => (hrl ▸ failsF_step (R := resv c) hk : failsF (resv c) N k = (growM n1 k [] 0).filter (countsM (resv c)) ++ failsF (resv c) N (k + 1))
  have HFE := Lib.hid (failsF_end (resv c) N)
  generalize failsF (resv c) N = FF at *
  have HJ := Lib.hid hJ
  have HB := Lib.hid (hB.ext hW)
  have HE := Lib.hid (hE.trans hW)
  have H0 := Lib.hid h0
  clear hY hY' hJ hJx hm hrl hln hB hE hW h0 hr
  have c1' := HB.out.cell
  have l1' := HB.out.lt
  go_enter Tryz.func194, Tryz.ntmps194
  go_wp2_with fail
  refine name_world _ ?_
  intro w1 hw1
  have B1 : FlB c A1 n1 c1 A2 n2 c2 l gc W.heap.size (W.heap.size + 1) w1 := by
    rw [hw1]
    exact ⟨(HB.out.alloc _).alloc _, (Blk.newAt rfl).alloc _, Blk.newAt (by simp)⟩
  have E1 : Ext W w1 := by rw [hw1]; exact (Ext.alloc0 _ _).alloc _
  have HAD := Lib.hid (HA.out W.heap.size (W.heap.size + 1) (by omega) (by omega))
  have J1 : J [] w1 := OwnFrom.ext HJ.out H0.out E1
  have E01 : Ext w0 w1 := HE.out.trans E1
  have hz1 : W.heap.size ≤ w1.heap.size := E1.size
  have ng1 : W.heap.size ≠ l := by omega
  have ng2 : W.heap.size + 1 ≠ l := by omega
  have HNG := Lib.hid (show gc ≠ l ∧ W.heap.size ≠ l ∧ W.heap.size + 1 ≠ l from ⟨hgl, ng1, ng2⟩)
  have hcall : ∀ (xs : Array Value) (W : World), (callFunc 195 xs).run Tryz.prog W = .ok (.enter 195 xs) W := Tryz.call195
  generalize hbase : W.heap.size = B at *
  clear hw1 HB HE H0 HA c1' l1' E1 ng1 ng2 hgl hbase hz hbs
  go_loopw [4] (fun i wr => ∃ (k : Nat) (pr : List FlV), k ≤ N + 1 ∧ i = .int .i64 k ∧ Hid (setsOf pr ++ FF k = failsM (resv c) N) ∧ Hid (J pr wr) ∧ Hid (FlB c A1 n1 c1 A2 n2 c2 l gc B (B + 1) wr) ∧ Hid (Ext w0 wr) ∧ B ≤ wr.heap.size) (fun i _ => N + 1 - (intOf i).toNat)
  case atStart => exact ⟨0, [], Nat.zero_le _, rfl, HF0, Lib.hid J1, Lib.hid B1, Lib.hid E01, hz1⟩
  case round =>
    clear B1 J1 E01 hz1
    obtain ⟨k, pr, hk, rfl, HL1, HJ1, HB1, HE1, hz1⟩ := hrel
    obtain ⟨b1, b2, b3⟩ := HB1.out
    have c_b1 := b1.cell; have f_b1 := b1.frozen; have l_b1 := b1.lt; have c_b3 := b3.cell; have f_b3 := b3.frozen; have l_b3 := b3.lt
    by_cases hlt : k ≤ N
    · have hl2 := HL1.out
      rw [HFS.out k hlt] at hl2
      have HL2 := Lib.hid hl2
      clear hl2
      have HC := Lib.hid (HAD.out k none 0 0 [] 0 pr (FF (k + 1)) wr HE1.out hz1 HB1.out (OwnInts.nil _ _) (fun i hi => by cases hi) (by simp; omega) (Nat.zero_le _) HJ1.out HL2.out)
      unfold AddPost at HC
      go_wp2_with fail
      refine HC.out.mono ?_
      rintro e w2 (⟨rfl, pr2, q1, q2, q3⟩ | ⟨rfl, pr2, q1⟩)
      · have QL : Hid (setsOf pr2 ++ FF (k + 1) = failsM (resv c) N) := by rw [q1, List.append_assoc]; exact HL2.out
        have QJ := Lib.hid q2
        have QB := Lib.hid (HB1.out.kp q3 HNG.out.1 HNG.out.2.1 HNG.out.2.2)
        have QE : Hid (Ext w0 w2) := Below.trans HE1.out q3.1
        have QZ : B ≤ w2.heap.size := Nat.le_trans hz1 q3.2.1
        clear q1 q2 q3
        go_wp2_with fail
        go_roundw
        case rel => exact ⟨k + 1, pr2, by omega, by go_num, QL, QJ, QB, QE, QZ⟩
        case measure => simp [intOf]; omega
      · have QJ := Lib.hid q1
        clear q1
        go_wp2_with fail
        go_end0
        exact ⟨⟨_, rfl⟩, .inr ⟨_, trivial, QJ.out⟩⟩
    · obtain rfl : k = N + 1 := by omega
      have hl2 := HL1.out
      rw [HFE.out, List.append_nil] at hl2
      have HL2 := Lib.hid hl2
      clear hl2
      go_wp2_with fail
      go_end0
      exact ⟨⟨_, rfl⟩, .inl ⟨_, HL2.out, HJ1.out⟩⟩
end Go.Proofs.YtiladlangkjoiaaGreat

namespace Go.Proofs.YtiladlangkjoiaaGreat
open Go.RowKit Go.Shelf
attribute [local go_sem] Oper.semAt_some

theorem row_from {B base : Nat} {e : TypeId} {sz : Nat} {W W' : World} {row : Option Nat} {v : Value} {n : Nat} {xs : List Value} (ho : W.ownsRow base e sz v n xs) (hgr : W.grownBy W' row) (hr : ∀ r, row = some r → B ≤ r ∧ ∃ o : Obj, W.heap[r]? = some o ∧ o.isCells = false) : W'.ownsRow base e sz v n xs := by
  refine ⟨ho.1, ?_⟩
  rcases ho.2 with hn | ⟨g, cap, cur, rfl, hbg, hg, rest⟩
  · exact .inl hn
  · refine .inr ⟨g, cap, cur, rfl, hbg, (hgr.block g (Array.getElem?_eq_some_iff.1 hg).1 (fun e => ?_)).trans hg, rest⟩
    obtain ⟨_, o, ho, hc⟩ := hr g e.symm
    rw [hg] at ho
    injection ho with ho
    rw [← ho] at hc
    cases hc
def RowsB (b bs : Nat) (w : World) (v : Value) (rows : List (List Int)) : Prop :=
  ∃ raw : List Value, raw.length = rows.length ∧ w.ownsRow b 56 1 v rows.length raw ∧ ∀ k (h : k < rows.length), ∃ u, raw[k]? = some u ∧ OwnInts bs w u rows[k]
theorem RowsB.nil (b bs : Nat) (w : World) : RowsB b bs w (.slice none 0 0) [] := ⟨[], rfl, World.ownsRow_nil _ _ _ _, fun k h => by cases h⟩
theorem RowsB.from {b bs B : Nat} {W W' : World} {row : Option Nat} {v : Value} {L : List (List Int)} (h : RowsB b bs W v L) (hgr : W.grownBy W' row) (hr : ∀ r, row = some r → B ≤ r ∧ ∃ o : Obj, W.heap[r]? = some o ∧ o.isCells = false) : RowsB b bs W' v L := by
  obtain ⟨raw, h1, h2, h3⟩ := h
  exact ⟨raw, h1, row_from h2 hgr hr, fun k hk => (h3 k hk).imp fun u g => ⟨g.1, ints_from g.2 hgr hr⟩⟩
theorem RowsB.own {b bs : Nat} {w : World} {v : Value} {L : List (List Int)} (h : RowsB b bs w v L) (hb : bs ≤ b) : OwnRows bs w v L := by
  obtain ⟨raw, h1, h2, h3⟩ := h
  exact ⟨raw, h1, own_mono h2 hb, h3⟩
theorem RowsB.set {b bs : Nat} {w : World} {v : Value} {L : List (List Int)} (h : RowsB b bs w v L) {g : Nat} {t : TypeId} {cs : Array Value} (hB : Blk w g t cs) (hne : 3 ≠ t) (hne' : 56 ≠ t) (u : Value) : RowsB b bs (w.setCell ⟨g, 0, none⟩ u) v L := by
  obtain ⟨raw, h1, h2, h3⟩ := h
  exact ⟨raw, h1, own_set h2 (own_blk h2 hB hne') u, fun k hk => (h3 k hk).imp fun q g => ⟨g.1, own_set g.2 (own_blk g.2 hB hne) u⟩⟩
theorem wp_range_Rf {P : Program} {β : Type} {g : Operand} {ps : Array Tmp} {assign body : Code} {Q : Exit → Act → World → Prop} {a : Act} {w : World} {gf : Nat} {lb : Array Value} {encs : β → Array Value} {Kp : Nat → World → World → Prop} {Fx : List β → β → World → Prop} {S Sp : List β → World → Prop}
    (hit : IterR P gf lb encs Kp Fx S Sp w) (hg : a.eval g = .func (.func gf) #[] lb) (eg : ∀ args w, (callFunc gf args).run P w = .ok (.enter gf args) w) (hps : ∀ x, (encs x).size = ps.size)
    (hKt : ∀ {l : Nat} {A B C : World}, Kp l A B → Kp l B C → Kp l A C) (hKb : ∀ (W : World) (l : Nat) (r r' : Loop), w.heap.size ≤ l → W.heap[l]? = some (.loop r) → Kp l W (W.putObj l (.loop r'))) (hKx : ∀ (l : Nat) (W W' : World), w.heap.size ≤ W.heap.size → Ext W W' → Kp l W W')
    (hS : OwnFrom w.heap.size S) (hFx : ∀ x, OwnFrom w.heap.size (fun pre W => Fx pre x W))
    (I : List β → World → Prop) (Ix : Code → List β → World → Prop) (hI : OwnFrom w.heap.size I) (hIx : ∀ c, OwnFrom w.heap.size (Ix c)) (h0 : I [] w)
    (upd : β → Array Value → Array Value)
    (hassign : ∀ (l n : Nat) (x : β) (W : World) (K : Act → World → Prop), K { tmps := upd x a.tmps, defers := [] } W →
      assign.wpIn (Fence.wide.inRound l) n P (Exit.then K (fun _ _ _ => False)) { tmps := (ps.zip (encs x)).foldl (fun t (p, v) => t.setIfInBounds p v) a.tmps, defers := [] } W)
    (hbody : ∀ (l : Nat) (r : Loop) (pre : List β) (x : β) (W : World), w.heap.size ≤ l → W.heap[l]? = some (.loop r) → Fx pre x W → w.heap.size ≤ W.heap.size → I pre W →
      body.wpIn (Fence.wide.inRound l) 5 P (RoundK w (Kp l) I Ix (pre ++ [x]) W) { tmps := upd x a.tmps, defers := [] } W)
    (hdone : ∀ (D : Nat) (xs : List β) (W : World), w.heap.size ≤ D → S xs W → I xs W → W.heap[D]? = some (.deferred (some [])) → Q .normal { a with defers := { target := .collected D, args := #[] } :: a.defers } W)
    (hstop : ∀ (D : Nat) (c : Code) (pre : List β) (W : World), w.heap.size ≤ D → Ix c pre W → W.heap[D]? = some (.deferred (some [])) → c.wp P Q { a with defers := { target := .collected D, args := #[] } :: a.defers } W) :
    (Code.rangeFunc g ps assign body).wp P Q a w :=
  wp_range_R hit hg eg hps hKt hKb hKx hS hFx I Ix hI hIx h0 (fun x a' _ => a' = { tmps := upd x a.tmps, defers := [] }) (fun _ _ _ _ _ _ h _ _ => h)
    (fun l n x W K _ hK => hassign l n x W K (hK _ _ (Ext.refl _) rfl)) (fun l r pre x _ W h1 h2 h3 h4 h5 h6 => h6 ▸ hbody l r pre x W h1 h2 h3 h4 h5) hdone hstop
end Go.Proofs.YtiladlangkjoiaaGreat

namespace Go.Proofs.YtiladlangkjoiaaGreat
open Go.RowKit Go.Shelf

section
variable (c : Camp) (A1 : Option Addr) (n1 c1 : Nat) (A2 : Option Addr) (n2 c2 : Nat) (w : World)
set_option maxHeartbeats 400000 in
theorem failures_c : Calls Tryz.prog 119 #[.agg #[.slice A1 n1 c1, .int .i64 c.body.lo, .int .i64 c.body.hi, .int .i64 c.fast, .int .i64 c.fails, .int .i64 c.miss, .int .i64 c.ticks, .slice A2 n2 c2]] w fun e w' =>
    ∃ gc, e = .returned (.func (.func 194) #[] #[.pointer (some ⟨gc, 0, none⟩)]) ∧ campBlk w' gc A1 n1 c1 A2 n2 c2 c ∧ Ext w w' := by
  go_enter Tryz.func119, Tryz.ntmps119
  go_wp2_with fail
  go_ret
  exact ⟨_, rfl, Blk.newAt rfl, ext_by⟩
end
end Go.Proofs.YtiladlangkjoiaaGreat
