/- The verdict on a campaign: the program. No condition. The verdict on a campaign, or which error: the program. No condition. What every law of the pushes asks first: the chapter's examples. No condition. -/
import Derived.Test.YtiladlangkjoiaaGreatPushTick
import Derived.Test.YtiladlangkjoiaaGreatOwnMis
import Derived.Test.YtiladlangkjoiaaGreatScopeIn
import Derived.Test.YtiladlangkjoiaaGreatFailures
import Derived.Test.YtiladlangkjoiaaGreatForceOps
import Derived.Test.YtiladlangkjoiaaGreatPushLaw
import Derived.Test.YtiladlangkjoiaaGreatMeetMay
import Derived.Test.YtiladlangkjoiaaGreatPushChange
namespace Go.Proofs.YtiladlangkjoiaaGreat
open Go.RowKit Go.Shelf
attribute [local go_sem] Oper.semAt_some

theorem tick_ok {l : List Body} {home : Int} {d : Drf} {c : Camp} {L : List Mis} {t : Int} {b : Bx} (h : (tickM l home d c L t b).1 = 0) : bxErr (tickM l home d c L t b).2 = 0 := by
  obtain ⟨_, _, h3, _, _, h6⟩ := tick_zero h
  rw [h6]
  generalize pushB l home L c.body t b = q at *
  unfold stepM at h3 ⊢
  by_cases k1 : wdErr l home d = 0
  · rw [if_pos k1] at h3 ⊢
    by_cases k2 : within t 0 1073741823 = true
    · rw [if_pos k2] at h3 ⊢
      by_cases k3 : bxErr q = 0
      · rw [if_pos k3] at h3 ⊢
        by_cases k4 : bxErr (stepB l home d t q) = 0
        · rw [if_pos k4]; exact k4
        · rw [if_neg k4] at h3; cases h3
      · rw [if_neg k3] at h3; exact absurd h3 k3
    · rw [if_neg k2] at h3; cases h3
  · rw [if_neg k1] at h3; exact absurd h3 k1
theorem misOf_cons {c : Camp} {x : Int} {F : List Int} {m : Mis} (h : c.missions[x.toNat]? = some m) : misOf c (x :: F) = m :: misOf c F := by
  unfold misOf
  rw [List.filterMap_cons, h]
theorem workM_range {c : Camp} {F : List Int} {i : Int} (h : i ∈ workM (resv c) F) : 0 ≤ i ∧ i < (c.missions.length : Int) := by
  unfold workM at h
  obtain ⟨h1, _⟩ := List.mem_filter.1 h
  obtain ⟨k, hk, rfl⟩ := List.mem_map.1 h1
  have := List.mem_range.1 hk
  unfold resv at this
  rw [List.length_map] at this
  omega
theorem workM_len (R : List Bool) (F : List Int) : (workM R F).length ≤ R.length := by
  unfold workM
  refine Nat.le_trans (List.length_filter_le _ _) ?_
  simp
theorem misL_mem {c : Camp} {F : List Int} {m : Mis} (h : m ∈ misOf c F) : m ∈ c.missions := by
  unfold misOf at h
  obtain ⟨i, _, hi⟩ := List.mem_filterMap.1 h
  exact List.mem_of_getElem? hi
def runX (o : Option (Int × Int)) (i : Nat) (r : Option (Int × Nat × Int)) : Option (Int × Nat × Int) := match o with | some w => some (w.1, i, w.2) | none => r
theorem runS_cons {β : Type} (f : Int → β → Int × β) (n : Nat) (t : Int) (b : β) (L : List β) (i : Nat) : runS f n t (b :: L) i = runX (runC f n t b) i (runS f n t L (i + 1)) := rfl
abbrev vdV (v : Vdt) (A : Option Addr) (n k : Nat) : Array Value := #[.bool v.safe, .int .i64 v.why, .slice A n k, .int .i64 v.cell, .int .i64 v.tick]
theorem ver_stop {W w5 : World} {b6 bs : Nat} {t : TypeId} {z : Array Value} {a0 a1 a2 a3 a4 v : Value} {F : List Int} {o : Obj} (hz : z.size = 5) (e : Ext W w5) (hb : Blk w5 b6 t z) (hne : 3 ≠ t) (ho : OwnInts bs w5 v F) (nb : Nat) :
    KeepsFrom nb W ((((((w5.setCell ⟨b6, 0, none⟩ a0).setCell ⟨b6, 1, none⟩ a1).setCell ⟨b6, 2, none⟩ a2).setCell ⟨b6, 3, none⟩ a3).setCell ⟨b6, 4, none⟩ a4).alloc o) ∧
    Blk ((((((w5.setCell ⟨b6, 0, none⟩ a0).setCell ⟨b6, 1, none⟩ a1).setCell ⟨b6, 2, none⟩ a2).setCell ⟨b6, 3, none⟩ a3).setCell ⟨b6, 4, none⟩ a4).alloc o) b6 t #[a0, a1, a2, a3, a4] ∧
    OwnInts bs ((((((w5.setCell ⟨b6, 0, none⟩ a0).setCell ⟨b6, 1, none⟩ a1).setCell ⟨b6, 2, none⟩ a2).setCell ⟨b6, 3, none⟩ a3).setCell ⟨b6, 4, none⟩ a4).alloc o) v F ∧
    ∀ w : World, Ext w W → w.heap.size ≤ b6 → Ext w ((((((w5.setCell ⟨b6, 0, none⟩ a0).setCell ⟨b6, 1, none⟩ a1).setCell ⟨b6, 2, none⟩ a2).setCell ⟨b6, 3, none⟩ a3).setCell ⟨b6, 4, none⟩ a4).alloc o) := by
  have hw : Wr w5 b6 (((((w5.setCell ⟨b6, 0, none⟩ a0).setCell ⟨b6, 1, none⟩ a1).setCell ⟨b6, 2, none⟩ a2).setCell ⟨b6, 3, none⟩ a3).setCell ⟨b6, 4, none⟩ a4) := (((((Wr.refl w5 b6).set rfl _).set rfl _).set rfl _).set rfl _).set rfl _
  refine ⟨(e.keepsFrom _).trans (((((((KeepsOthers.setCell _ _ _).trans (KeepsOthers.setCell _ _ _)).trans (KeepsOthers.setCell _ _ _)).trans (KeepsOthers.setCell _ _ _)).trans (KeepsOthers.setCell _ _ _)).trans (KeepsOthers.alloc _ _)).from _), ?_, (ho.grow hb hne hw).ext (Ext.alloc0 _ _), fun w h1 h2 => (hw.ext (h1.trans e) h2).alloc _⟩
  obtain ⟨z0, z1, z2, z3, z4, rfl⟩ : ∃ z0 z1 z2 z3 z4, z = #[z0, z1, z2, z3, z4] := by
    obtain ⟨l⟩ := z
    match l, hz with
    | [z0, z1, z2, z3, z4], _ => exact ⟨_, _, _, _, _, rfl⟩
  exact (((((hb.set_ 0 a0).set_ 1 a1).set_ 2 a2).set_ 3 a3).set_ 4 a4).alloc _
section
variable (M : Option Addr) (k0 k1 : Nat) (cm : Camp) (A2 : Option Addr) (n2 c2 : Nat) (A : Option Addr) (n c : Nat) (home : Int) (l : List Body) (d : Drf) (tick : Int) (B : Option Addr) (m0 e0 : Nat) (S : List Bx) (w : World)
set_option maxRecDepth 20000 in
set_option maxHeartbeats 16000000 in
theorem pVer_c (hl : Bodies w A n l) (hk : Keys w A2 n2 cm.keys) (hM : Miss w M k0 cm.missions) (hS : Bxs w B m0 S) (hc : campErr cm = 0) (hv : ∀ b ∈ S, bxErr b = 0) (ht : 0 ≤ tick ∧ tick ≤ 1073741824) :
    Calls Tryz.prog 103 #[.agg #[.slice M k0 k1, .int .i64 cm.body.lo, .int .i64 cm.body.hi, .int .i64 cm.fast, .int .i64 cm.fails, .int .i64 cm.miss, .int .i64 cm.ticks, .slice A2 n2 c2, .slice A n c, .int .i64 home, .int .i64 d.light.lo, .int .i64 d.light.hi, .int .i64 d.heat.lo, .int .i64 d.heat.hi, .int .i64 d.gas], .int .i64 tick, .slice B m0 e0] w fun e w' => ∃ A' n' k', e = .returned (.agg (vdV (verM l home d cm tick S) A' n' k')) ∧ OwnInts w.heap.size w' (.slice A' n' k') (verM l home d cm tick S).failed ∧ Ext w w' := by
  obtain ⟨g1, g2, g3, g4, ⟨g5, g6⟩, g7, ⟨g8, g9⟩, g10⟩ := campErr_ok.1 hc
  obtain ⟨N, hN⟩ : ∃ N : Nat, cm.fails = (N : Int) := ⟨cm.fails.toNat, by omega⟩
  obtain ⟨Tn, hTn⟩ : ∃ Tn : Nat, cm.ticks = (Tn : Int) := ⟨cm.ticks.toNat, by omega⟩
  have hNt : cm.fails.toNat = N := by omega
  have hTt : cm.ticks.toNat = Tn := by omega
  have hln := hM.len
  have hk06 : k0 ≤ 6 := by omega
  have hrl : (resv cm).length ≤ 6 := by unfold resv; rw [List.length_map]; exact g1
  have HF := Lib.hid fun W => failures_c cm M k0 k1 A2 n2 c2 W
  have HIT := Lib.hid fun (gc : Nat) (W : World) (hW : Ext w W) (hB : campBlk W gc M k0 k1 A2 n2 c2 cm) => fails_iter cm M k0 k1 A2 n2 c2 w.heap.size gc N w W hM hk06 hN (by omega) hW hB hW.size
  have HW := Lib.hid fun (F : List Int) (A' : Option Addr) (n' k' : Nat) W (hW : Ext w W) (hF : Ints W A' n' F) => pWorking_c cm M k0 k1 A2 n2 c2 A' n' k' F W (Miss.ext hW hM) hF hk06
  have HTK := Lib.hid fun (L : List Mis) (hL : ∀ m ∈ L, m ∈ cm.missions) (hLn : L.length ≤ 8) (t : Int) (b : Bx) (hb : bxErr b = 0) (B' : Option Addr) (m' e' : Nat) W (hW : Ext w W) (hm : Miss W B' m' L) => pTick_c M k0 k1 cm A2 n2 c2 A n c home l d t W B' m' e' L b (Bodies.ext hW hl) (Keys.ext hW hk) hm (fun m hm => g2 m (hL m hm)) hLn (boundErr_ok.2 g3) hb
  have HM := Lib.hid fun W (hW : Ext w W) => Miss.ext hW hM
  have HS := Lib.hid fun W (hW : Ext w W) => Bxs.ext hW hS
  have HV := Lib.hid hv
  unfold verM
  rw [hNt, hTt]
  obtain ⟨V, hV⟩ : ∃ V, runF l home d cm Tn tick S (failsM (resv cm) N) = V := ⟨_, rfl⟩
  rw [hV]
  have HVV := Lib.hid hV
  have hm0 := hS.le
  have HSL := Lib.hid hS.len
  obtain ⟨ic, hic, hc0, hc1, hc2⟩ := info_parts info_mis
  have HRL := Lib.hid hrl
  have hTl : cm.ticks ≤ (Tn : Int) := by omega
  have hTg : (Tn : Int) ≤ cm.ticks := by omega
  clear hl hk hM hS hc hv g1 g2 g3 g4 g5 g6 g7 g10 hN hNt hTt hTn hln hV hrl
  generalize failsM (resv cm) N = L at *
  refine (callsIn_wide (n := 6)).1 (callsIn_of_wp_marks Tryz.func103 rfl trivial ?_)
  simp only [Tryz.ntmps103, List.size_toArray, List.length_cons, List.length_nil, Nat.reduceAdd, Nat.reduceSub, Array.replicate_succ, Array.replicate_zero, List.push_toArray, List.append_toArray, List.nil_append, List.cons_append]
  refine wpIn_wide.2 ?_
  go_wp2_with fail
  refine (HF.out _).mono ?_
  rintro e w1 ⟨gc, rfl, hgc, h1⟩
  have B3 : Blk w1 w.heap.size 146 #[.slice M k0 k1, .int .i64 cm.body.lo, .int .i64 cm.body.hi, .int .i64 cm.fast, .int .i64 cm.fails, .int .i64 cm.miss, .int .i64 cm.ticks, .slice A2 n2 c2, .slice A n c, .int .i64 home, .int .i64 d.light.lo, .int .i64 d.light.hi, .int .i64 d.heat.lo, .int .i64 d.heat.hi, .int .i64 d.gas] := ((((Blk.newAt rfl).alloc _).alloc _).alloc _).ext h1
  have B4 : Blk w1 (w.heap.size + 1) 2 #[.int .i64 tick] := (((Blk.newAt (by simp)).alloc _).alloc _).ext h1
  have B5 : Blk w1 (w.heap.size + 1 + 1) 53 #[.slice B m0 e0] := ((Blk.newAt (by simp)).alloc _).ext h1
  have B6 : Blk w1 (w.heap.size + 1 + 1 + 1) 58 #[.bool false, .int .i64 0, .slice none 0 0, .int .i64 0, .int .i64 0] := (Blk.newAt (by simp)).ext h1
  have E1 : Ext w w1 := ext_by
  have hz6 := B6.lt
  have HGC := Lib.hid hgc
  clear h1 hgc HF
  go_wp2_with fail
  refine wp_range_Rf (HIT.out gc w1 E1 HGC.out) rfl Tryz.call194 (fun _ => rfl) KpE.trans (fun W l r r' h1 h2 => KpE.put (w := w1) (by omega) W l r r' h1 h2) (fun l W W' h e => KpE.of_ext e (by omega)) (fun s W W' row h _ _ => h) (fun x => flX_from _ _ _ _)
    (fun pre W => Ext w W ∧ setsOf pre <+: L ∧ Hid (runF l home d cm Tn tick S (L.drop pre.length) = V) ∧ Blk W w.heap.size 146 #[.slice M k0 k1, .int .i64 cm.body.lo, .int .i64 cm.body.hi, .int .i64 cm.fast, .int .i64 cm.fails, .int .i64 cm.miss, .int .i64 cm.ticks, .slice A2 n2 c2, .slice A n c, .int .i64 home, .int .i64 d.light.lo, .int .i64 d.light.hi, .int .i64 d.heat.lo, .int .i64 d.heat.hi, .int .i64 d.gas] ∧ Blk W (w.heap.size + 1) 2 #[.int .i64 tick] ∧ Blk W (w.heap.size + 1 + 1) 53 #[.slice B m0 e0] ∧ Blk W (w.heap.size + 1 + 1 + 1) 58 #[.bool false, .int .i64 0, .slice none 0 0, .int .i64 0, .int .i64 0])
    (fun c pre W => c = .ret ∧ Ext w W ∧ ∃ A' n' k', Blk W (w.heap.size + 1 + 1 + 1) 58 (vdV V A' n' k') ∧ OwnInts w.heap.size W (.slice A' n' k') V.failed)
    (fun pre W W' row ⟨h1, h2, h3, h4, h5, h6, h7⟩ hgr hr => ⟨ownFrom_ext (by omega) pre W W' row h1 hgr hr, h2, h3, ownFrom_blk _ _ _ (fun _ => #[.slice M k0 k1, .int .i64 cm.body.lo, .int .i64 cm.body.hi, .int .i64 cm.fast, .int .i64 cm.fails, .int .i64 cm.miss, .int .i64 cm.ticks, .slice A2 n2 c2, .slice A n c, .int .i64 home, .int .i64 d.light.lo, .int .i64 d.light.hi, .int .i64 d.heat.lo, .int .i64 d.heat.hi, .int .i64 d.gas]) pre W W' row h4 hgr hr, ownFrom_blk _ _ _ (fun _ => #[.int .i64 tick]) pre W W' row h5 hgr hr, ownFrom_blk _ _ _ (fun _ => #[.slice B m0 e0]) pre W W' row h6 hgr hr, ownFrom_blk _ _ _ (fun _ => #[.bool false, .int .i64 0, .slice none 0 0, .int .i64 0, .int .i64 0]) pre W W' row h7 hgr hr⟩)
    (fun c pre W W' row ⟨h1, h2, A', n', k', h3, h4⟩ hgr hr => ⟨h1, ownFrom_ext (by omega) pre W W' row h2 hgr hr, A', n', k', ownFrom_blk _ _ _ (fun _ => vdV V A' n' k') pre W W' row h3 hgr hr, ints_from h4 hgr hr⟩)
    ⟨E1, List.nil_prefix, HVV, B3, B4, B5, B6⟩
    (fun x t => (t.setIfInBounds 19 (flW x)).setIfInBounds 7 (flW x)) ?assign ?body ?done ?stop
  case assign =>
    intro l n x W K hK
    simp only [List.setIfInBounds_toArray, List.set_cons_zero, List.set_cons_succ] at hK
    simp only [flE]
    gi_wp2
    exact hK
  case body =>
    rintro lb rr pre x W hlb hrl ⟨hpx, hox⟩ hW ⟨he, hp, hr, b3, b4, b5, b6⟩
    simp only [List.setIfInBounds_toArray, List.set_cons_zero, List.set_cons_succ]
    obtain ⟨xA, xn, xc, xF⟩ := x
    dsimp only [flW] at hpx hox ⊢
    have hsx : Ints W xA xn xF := by
      obtain ⟨A', c', e1, h⟩ := hox.sl
      injection e1 with e1 e2 e3
      rw [e1, e2]; exact h
    have HWK := Lib.hid fun V (hV : Ext W V) => HW.out xF xA xn xc V (he.trans hV) (Ints.ext hV hsx)
    have HE := Lib.hid he
    have HOX := Lib.hid hox
    have HPX := Lib.hid hpx
    have HB4 := Lib.hid b4
    have HB5 := Lib.hid b5
    have HB6 := Lib.hid b6
    have HB3 := Lib.hid b3
    have Z6 := b6.lt
    have Z1 := hlb
    obtain ⟨R2, hR2⟩ : ∃ R2, L.drop (pre.length + 1) = R2 := ⟨_, rfl⟩
    have hrun : (match runS (tickM l home d cm (misOf cm (workM (resv cm) xF))) Tn tick S 0 with | some w => (⟨false, w.1, xF, w.2.1, w.2.2⟩ : Vdt) | none => runF l home d cm Tn tick S R2) = V := by
      obtain ⟨rest, hrest⟩ := hpx
      have hd1 : L.drop pre.length = xF :: L.drop (pre.length + 1) := by
        rw [← hrest, List.append_assoc]
        have e1 : (setsOf pre).length = pre.length := List.length_map _
        rw [← e1, List.drop_left, ← List.drop_drop, List.drop_left]
        rfl
      have := hr.out
      rw [hd1, runF, hR2] at this
      exact this
    have HRUN := Lib.hid hrun
    have HR2 := Lib.hid hR2
    clear hsx HW hp hpx hox he HIT b4 b5 b6 hrun hR2 hr
    have c_b3 := b3.cell; have f_b3 := b3.frozen; have l_b3 := b3.lt
    gi_wp2
    refine wpIn_scope_straight ?_
    gi_wp2
    refine ⟨trivial, (CallsIn.inRound lb (callsIn_wide.2 (HWK.out _ ext_by))).mono ?_⟩
    rintro e w7 ⟨v7, rfl, ho7, h7⟩
    obtain ⟨A7, c7, rfl, hs7⟩ := ho7.sl
    obtain ⟨K, hK⟩ : ∃ K, (workM (resv cm) xF).length = K := ⟨_, rfl⟩
    have hK6 : K ≤ 6 := by have := workM_len (resv cm) xF; have := HRL.out; omega
    have HMO : Hid (misOf cm (workM (resv cm) xF) = misOf cm (workM (resv cm) xF)) := rfl
    have HRG := Lib.hid fun i (h : i ∈ workM (resv cm) xF) => workM_range h
    rw [hK] at hs7 ⊢
    generalize workM (resv cm) xF = WK at *
    have HWL := Lib.hid hK
    have HS7 := Lib.hid hs7
    have B3' := b3.ext h7
    have E7 := HE.out.trans h7
    have EW := h7
    clear hK hs7 ho7 h7 HWK HMO
    clear c_b3 f_b3 l_b3
    have c_B3' := B3'.cell; have f_B3' := B3'.frozen; have l_B3' := B3'.lt
    gi_wp2
    gi_loopw [8, 25] (fun v i wr => ∃ (k : Nat) (acc : List Mis), k ≤ K ∧ i = .int .i64 k ∧ acc.length ≤ k ∧ Hid (acc ++ misOf cm (WK.drop k) = misOf cm WK) ∧ Hid (OwnMis w7.heap.size wr v acc) ∧ Ext w7 wr) (fun _ i _ => K - (intOf i).toNat)
    case atStart => exact ⟨0, [], Nat.zero_le _, rfl, Nat.le_refl _, Lib.hid rfl, Lib.hid (OwnMis.nil _ _), Ext.refl _⟩
    case round =>
      obtain ⟨k, acc, hk, rfl, hak, HI, HO, hb⟩ := hrel
      have B3r := B3'.ext hb
      clear c_B3' f_B3' l_B3'
      by_cases hlt : k < K
      · obtain ⟨gb, off, x, rfl, HD, hxm, hx⟩ := HS7.out.one hlt
        have hx := hb.cell hx
        simp only [Nat.mul_one] at hx
        have hxr := HRG.out x hxm
        obtain ⟨j, rfl⟩ := Int.eq_ofNat_of_zero_le hxr.1
        have hj : j < cm.missions.length := by omega
        have hmj : cm.missions[j]? = some cm.missions[j] := List.getElem?_eq_getElem hj
        have hi := HI.out
        rw [HD.out, misOf_cons (m := cm.missions[j]) (by rw [Int.toNat_natCast]; exact hmj)] at hi
        obtain ⟨hin, mb, mo, rfl, hcx⟩ := (HM.out wr (E7.trans hb)).get hmj
        generalize cm.missions[j] = x at *
        have Hi := Lib.hid hi
        obtain ⟨x0, x1, x2, x3, x4, x5, x6, x7, x8, x9, x10, x11, x12, x13⟩ := hcx
        have hgl : gb < wr.heap.size := World.block_lt_of_cell? wr _ hx
        have hml : mb < wr.heap.size := World.block_lt_of_cell? wr _ x0
        have hk1 : k + 1 ≤ K := hlt
        have hzr : w7.heap.size ≤ wr.heap.size := hb.size
        clear hi hxm hmj hj HI HD HM
        have c_B3r := B3r.cell; have f_B3r := B3r.frozen; have l_B3r := B3r.lt
        gi_wp2_with (gi_at_builtin; go_loud (refine wpListIn_append_own _ rfl _ _ 33 rfl w7.heap.size 30 ic _ 14 112 Tryz.underlying33 hic hc0 hc1 hc2 rfl (by decide) _ acc.length (acc.flatMap misC) rfl (own_ext_keep HO.out ext_by) ⟨_, 0, none⟩ 1 1 (misC x) rfl rfl (new_cells (by simp)) (mis_one x) (by unfold maxLen; omega) (by omega) (by simp only [World.size_alloc]; omega) ?_))
        intro v9 w9 ho9 hg9 _
        have e9 := own_ext (w0 := w7) (hb.alloc (.cells (misC x).toArray 30)) (own_ext_keep HO.out (Ext.alloc0 _ _)) hg9 (Nat.le_refl _)
        have HO9 := Lib.hid (OwnMis.ofSnoc rfl ho9)
        clear ho9 hg9 HO x0 x1 x2 x3 x4 x5 x6 x7 x8 x9 x10 x11 x12 x13
        gi_wp2
        go_roundw
        case rel => exact ⟨k + 1, acc ++ [x], hk1, by go_num, by simp; omega, Lib.hid (by rw [List.append_assoc]; exact Hi.out), HO9, e9⟩
        case measure => simp [intOf]; omega
      · have hkn : k = K := by omega
        subst hkn
        have hi := HI.out
        rw [← HWL.out, List.drop_length] at hi
        have hacc : acc = misOf cm WK := by simpa [misOf] using hi
        obtain ⟨A8, c8, rfl, hs8⟩ := HO.out.sl
        have hl8 : acc.length ≤ 8 := by omega
        have hmem : ∀ m ∈ acc, m ∈ cm.missions := fun m hm => misL_mem (by rw [← hacc]; exact hm)
        rw [← hacc] at HRUN
        have HFO := Lib.hid fun (t : Int) (b : Bx) (h : (tickM l home d cm acc t b).1 = 0) => tick_ok h
        have HTICK := Lib.hid fun (t : Int) (b : Bx) (hb' : bxErr b = 0) V (hV : Ext wr V) => HTK.out acc hmem hl8 t b hb' A8 acc.length c8 V ((E7.trans hb).trans hV) (Miss.ext hV hs8)
        generalize tickM l home d cm acc = f at *
        obtain ⟨X, hX⟩ : ∃ X, runS f Tn tick S 0 = X := ⟨_, rfl⟩
        rw [hX] at HRUN
        have HX0 : Hid (runS f Tn tick (S.drop 0) 0 = X) := hX
        have B4r := (HB4.out.ext EW).ext hb
        have B5r := (HB5.out.ext EW).ext hb
        have E8 := E7.trans hb
        have EWr := EW.trans hb
        have hm8 : acc.length ≤ 9223372036854775807 := by omega
        clear hX hi hacc hs8 hmem HTK HI HO HM HRG HWL HS7
        obtain ⟨wo, rfl⟩ : ∃ wo : World, wo = wr := ⟨_, rfl⟩
        have c_B5r := B5r.cell; have f_B5r := B5r.frozen; have l_B5r := B5r.lt
        gi_wp2
        refine wpIn_label ?_
        gi_wp2
        gi_loopw [41] (fun i wr => ∃ i' : Nat, i' ≤ m0 ∧ i = .int .i64 i' ∧ Hid (runS f Tn tick (S.drop i') i' = X) ∧ Ext wo wr) (fun i _ => m0 - (intOf i).toNat)
        case atStart => exact ⟨0, Nat.zero_le _, rfl, HX0, Ext.refl _⟩
        case round =>
          obtain ⟨i, hi, rfl, HXi, hbo⟩ := hrel
          by_cases hlt2 : i < m0
          · obtain ⟨sb, off, x, rfl, HDx, hxm, hx⟩ := (HS.out wr (E8.trans hbo)).one hlt2
            obtain ⟨x0, x1, x2, x3, x4, x5, x6, x7⟩ := hx
            have hxv := HV.out x hxm
            have hsl : sb < wr.heap.size := World.block_lt_of_cell? wr _ x0
            have hxi := HXi.out
            rw [HDx.out, runS_cons] at hxi
            have HXI := Lib.hid hxi
            have hi1 : i + 1 ≤ m0 := hlt2
            have B3i := B3r.ext hbo
            clear hxi HXi HDx hxm
            have c_B3i := B3i.cell; have f_B3i := B3i.frozen; have l_B3i := B3i.lt
            gi_wp2
            refine name_world _ ?_
            intro wq hwq
            have B12 : Blk wq wr.heap.size 48 #[.int .i64 x.x.lo, .int .i64 x.x.hi, .int .i64 x.y.lo, .int .i64 x.y.hi, .int .i64 x.u.lo, .int .i64 x.u.hi, .int .i64 x.v.lo, .int .i64 x.v.hi] := by rw [hwq]; exact Blk.newAt rfl
            have Eq1 : Ext wo wq := by rw [hwq]; exact hbo.alloc _
            have Eq2 : Ext wr wq := by rw [hwq]; exact Ext.alloc0 _ _
            clear hwq x0 x1 x2 x3 x4 x5 x6 x7 hsl
            clear c_B3i f_B3i l_B3i
            obtain ⟨g12, hg12⟩ : ∃ g, g = wr.heap.size := ⟨_, rfl⟩
            rw [← hg12] at B12 ⊢
            have hg12o : wo.heap.size ≤ g12 := by rw [hg12]; exact hbo.size
            have HC0 : Hid (runX (runC f (Tn - 0) (tick + (0 : Nat)) x) i (runS f Tn tick (S.drop (i + 1)) (i + 1)) = X) := by
              have := HXI.out
              simpa [Hid] using this
            clear hg12 HXI Eq2 B3i
            obtain ⟨wu, rfl⟩ : ∃ wu : World, wu = wr := ⟨_, rfl⟩
            gi_loopw [49] (fun i2 wr => ∃ (nn : Nat) (cur : Bx), nn + 1 ≤ Tn ∧ i2 = .int .i64 nn ∧ bxErr cur = 0 ∧ Hid (runX (runC f (Tn - nn) (tick + nn) cur) i (runS f Tn tick (S.drop (i + 1)) (i + 1)) = X) ∧ Hid (Blk wr g12 48 #[.int .i64 cur.x.lo, .int .i64 cur.x.hi, .int .i64 cur.y.lo, .int .i64 cur.y.hi, .int .i64 cur.u.lo, .int .i64 cur.u.hi, .int .i64 cur.v.lo, .int .i64 cur.v.hi]) ∧ Ext wo wr) (fun i _ => Tn - (intOf i).toNat)
            case atStart => exact ⟨0, x, by omega, rfl, hxv, HC0, Lib.hid B12, Eq1⟩
            case round =>
              obtain ⟨nn, cur, hnn, rfl, hcv, HCN, HB12, hbn⟩ := hrel
              have hcn := HCN.out
              rw [show Tn - nn = (Tn - (nn + 1)) + 1 by omega, runC] at hcn
              have HTT := Lib.hid (HTICK.out (tick + nn) cur hcv)
              have HFV := Lib.hid (HFO.out (tick + nn) cur)
              generalize f (tick + nn) cur = T at *
              obtain ⟨why, nx⟩ := T
              dsimp only at HTT HFV hcn
              have B12 := HB12.out
              have B3n := B3r.ext hbn
              have B4n := B4r.ext hbn
              have HCN2 := Lib.hid hcn
              clear hcn HCN HB12
              have c_B12 := B12.cell; have f_B12 := B12.frozen; have l_B12 := B12.lt; have c_B3n := B3n.cell; have f_B3n := B3n.frozen; have l_B3n := B3n.lt; have c_B4n := B4n.cell; have f_B4n := B4n.frozen; have l_B4n := B4n.lt
              gi_wp2
              refine ⟨trivial, (CallsIn.inRound lb (callsIn_wide.2 (HTT.out _ ext_by))).mono ?_⟩
              rintro e w5 ⟨rfl, h5⟩
              clear c_B12 f_B12 l_B12 c_B3n f_B3n l_B3n c_B4n f_B4n l_B4n
              replace B12 := B12.ext h5
              replace B3n := B3n.ext h5
              replace B4n := B4n.ext h5
              have hb5 := hbn.trans h5
              have h12 := B12.lt
              have h35 := B3n.lt
              clear h5 HTT
              by_cases hwy : why = 0
              · subst hwy
                have hcn := HCN2.out
                rw [if_neg (by simp)] at hcn
                have hnv := HFV.out rfl
                have hn12 : w.heap.size ≠ g12 := by have := E8.size; omega
                by_cases hlast : nn + 1 = Tn
                · have hsub : Tn - (nn + 1) = 0 := by omega
                  rw [hsub] at hcn
                  have HXN : Hid (runS f Tn tick (S.drop (i + 1)) (i + 1) = X) := hcn
                  clear hcn HCN2 HFV hsub
                  have c_B12 := B12.cell; have f_B12 := B12.frozen; have l_B12 := B12.lt; have c_B3n := B3n.cell; have f_B3n := B3n.frozen; have l_B3n := B3n.lt
                  gi_wp2
                  go_roundw
                  case rel => exact ⟨i + 1, hi1, by go_num, HXN, (ext_set2 (ext_set2 (ext_set2 (ext_set2 hb5 hg12o) hg12o) hg12o) hg12o).alloc _⟩
                  case measure => simp [intOf]; omega
                · have hcn2 : Hid (runX (runC f (Tn - (nn + 1)) (tick + ((nn + 1 : Nat) : Int)) nx) i (runS f Tn tick (S.drop (i + 1)) (i + 1)) = X) := by
                    have e1 : tick + ((nn + 1 : Nat) : Int) = tick + nn + 1 := by omega
                    rw [e1]; exact hcn
                  have hn2 : nn + 1 + 1 ≤ Tn := by omega
                  clear hcn HCN2 HFV
                  have c_B12 := B12.cell; have f_B12 := B12.frozen; have l_B12 := B12.lt; have c_B3n := B3n.cell; have f_B3n := B3n.frozen; have l_B3n := B3n.lt
                  gi_wp2
                  go_roundw
                  case rel => exact ⟨nn + 1, nx, hn2, by go_num, hnv, hcn2, Lib.hid ((blk_set2 (blk_set2 (blk_set2 (blk_set2 B12 rfl) rfl) rfl) rfl).alloc _), (ext_set2 (ext_set2 (ext_set2 (ext_set2 hb5 hg12o) hg12o) hg12o) hg12o).alloc _⟩
                  case measure => simp [intOf]; omega
              · have hcn := HCN2.out
                rw [if_pos hwy] at hcn
                have hXs : X = some (why, i, tick + nn) := hcn.symm
                have hVs : V = ⟨false, why, xF, i, tick + nn⟩ := by
                  have := HRUN.out
                  rw [hXs] at this
                  exact this.symm
                have HVS := Lib.hid hVs
                have B6n := (HB6.out.ext (EWr.trans hb5))
                have HOn := Lib.hid (HOX.out.ext (EWr.trans hb5))
                have hwy2 : ¬ (why = 0) := hwy
                clear hcn HCN2 HFV hXs hVs
                have c_B6n := B6n.cell; have f_B6n := B6n.frozen; have l_B6n := B6n.lt; have c_B4n := B4n.cell; have f_B4n := B4n.frozen; have l_B4n := B4n.lt
                have EW5 := EWr.trans hb5
                gi_wp2
                simp only [Exit.noGoto, Exit.inBlock]
                have KK := fun a0 a1 a2 a3 a4 o => ver_stop (a0 := a0) (a1 := a1) (a2 := a2) (a3 := a3) (a4 := a4) (o := o) rfl EW5 B6n (by decide) HOn.out w1.heap.size
                refine ⟨(KK _ _ _ _ _ _).1, rfl, (KK _ _ _ _ _ _).2.2.2 w HE.out (by omega), xA, xn, xc, ?_, ?_⟩
                · rw [HVS.out]; exact (KK _ _ _ _ _ _).2.1
                · rw [HVS.out]; exact (KK _ _ _ _ _ _).2.2.1
          · have him : i = m0 := by omega
            subst him
            have hXn : X = none := by
              have := HXi.out
              rw [List.drop_eq_nil_of_le (by have := HSL.out; omega)] at this
              exact this.symm
            have hVn : Hid (runF l home d cm Tn tick S (L.drop (pre ++ [(⟨xA, xn, xc, xF⟩ : FlV)]).length) = V) := by
              have := HRUN.out
              rw [hXn] at this
              rw [List.length_append, List.length_singleton, HR2.out]
              exact this
            have EWq := EWr.trans hbo
            have QB3 := B3r.ext hbo
            have QB4 := B4r.ext hbo
            have QB5 := B5r.ext hbo
            have QB6 := (HB6.out.ext EWq)
            have QE := E8.trans hbo
            clear HXi hXn HTICK HFO B3r B4r
            clear c_B5r f_B5r l_B5r
            gi_wp2
            simp only [Exit.noGoto, Exit.inBlock]
            exact ⟨EWq.keepsFrom _, KpE.of_ext EWq (by omega), QE, by simpa [setsOf] using HPX.out, hVn, QB3, QB4, QB5, QB6⟩
  case done =>
    rintro D xs W hD hS ⟨he, hp, hr, b3, b4, b5, b6⟩ hK
    have hVs : V = safeV := by
      have := hr.out
      rw [← hS, List.drop_eq_nil_of_le (by simp [setsOf])] at this
      exact this.symm
    have hnD : w.heap.size + 1 + 1 + 1 ≠ D := by omega
    have hDw : w.heap.size ≤ D := by omega
    have HVS := Lib.hid hVs
    clear hr hp hVs b3 b4 b5 HIT HVV
    have c_b6 := b6.cell; have f_b6 := b6.frozen; have l_b6 := b6.lt
    go_wp2_with fail
    have hK' : (((((W.setCell ⟨w.heap.size + 1 + 1 + 1, 0, none⟩ (.bool true)).setCell ⟨w.heap.size + 1 + 1 + 1, 1, none⟩ (.int .i64 0)).setCell ⟨w.heap.size + 1 + 1 + 1, 2, none⟩ (.slice none 0 0)).setCell ⟨w.heap.size + 1 + 1 + 1, 3, none⟩ (.int .i64 0)).setCell ⟨w.heap.size + 1 + 1 + 1, 4, none⟩ (.int .i64 0)).heap[D]? = some (.deferred (some [])) := by
      rw [Below.heap_setCell _ _ _ _ (fun e => hnD e.symm), Below.heap_setCell _ _ _ _ (fun e => hnD e.symm), Below.heap_setCell _ _ _ _ (fun e => hnD e.symm), Below.heap_setCell _ _ _ _ (fun e => hnD e.symm), Below.heap_setCell _ _ _ _ (fun e => hnD e.symm)]; exact hK
    refine ⟨by simp, .inl ⟨_, _, rfl, run_takeDeferred hK', ?_⟩⟩
    have hB9 := (Blk.put (o := Obj.deferred none) (((((b6.set_ 0 (.bool true)).set_ 1 (.int .i64 0)).set_ 2 (.slice none 0 0)).set_ 3 (.int .i64 0)).set_ 4 (.int .i64 0)) hnD).cell
    clear c_b6 f_b6
    refine ⟨.agg #[.bool true, .int .i64 0, .slice none 0 0, .int .i64 0, .int .i64 0], ?_, none, 0, 0, by rw [HVS.out]; rfl, by rw [HVS.out]; exact OwnInts.nil _ _, Ext.put ((((((he.set (by dsimp only; omega) _).set (by dsimp only; omega) _).set (by dsimp only; omega) _).set (by dsimp only; omega) _).set (by dsimp only; omega) _)) hDw⟩
    simp only [results, Tryz.results103]
    go_simp
  case stop =>
    rintro D cc pre W hD ⟨rfl, he, A', n', k', hb, ho⟩ hK
    have hDw : w.heap.size ≤ D := by omega
    have hnD : w.heap.size + 1 + 1 + 1 ≠ D := by omega
    have HO := Lib.hid ho
    have c_hb := hb.cell; have f_hb := hb.frozen; have l_hb := hb.lt
    clear ho HIT HVV
    go_wp2_with fail
    refine ⟨by simp, .inl ⟨_, _, rfl, run_takeDeferred hK, ?_⟩⟩
    have hB9 := (Blk.put (o := Obj.deferred none) hb hnD).cell
    clear c_hb f_hb
    refine ⟨.agg (vdV V A' n' k'), ?_, A', n', k', rfl, ints_from (B := 0) HO.out (grownBy_putObj' _ D (.deferred none)) (fun r e => by cases e; exact ⟨Nat.zero_le _, _, hK, rfl⟩), Ext.put he hDw⟩
    simp only [results, Tryz.results103]
    go_simp
end
end Go.Proofs.YtiladlangkjoiaaGreat

namespace Go.Proofs.YtiladlangkjoiaaGreat
open Go.RowKit

theorem ver_put {w W : World} {b6 bs : Nat} {t : TypeId} {z : Array Value} {a0 a1 a2 a3 a4 v : Value} {F : List Int} (hz : z.size = 5) (e : Ext w W) (hb : Blk W b6 t z) (hne : 3 ≠ t) (ho : OwnInts bs W v F) (hn : w.heap.size ≤ b6) :
    Blk (((((W.setCell ⟨b6, 0, none⟩ a0).setCell ⟨b6, 1, none⟩ a1).setCell ⟨b6, 2, none⟩ a2).setCell ⟨b6, 3, none⟩ a3).setCell ⟨b6, 4, none⟩ a4) b6 t #[a0, a1, a2, a3, a4] ∧
    OwnInts bs (((((W.setCell ⟨b6, 0, none⟩ a0).setCell ⟨b6, 1, none⟩ a1).setCell ⟨b6, 2, none⟩ a2).setCell ⟨b6, 3, none⟩ a3).setCell ⟨b6, 4, none⟩ a4) v F ∧
    Ext w (((((W.setCell ⟨b6, 0, none⟩ a0).setCell ⟨b6, 1, none⟩ a1).setCell ⟨b6, 2, none⟩ a2).setCell ⟨b6, 3, none⟩ a3).setCell ⟨b6, 4, none⟩ a4) := by
  have hw : Wr W b6 (((((W.setCell ⟨b6, 0, none⟩ a0).setCell ⟨b6, 1, none⟩ a1).setCell ⟨b6, 2, none⟩ a2).setCell ⟨b6, 3, none⟩ a3).setCell ⟨b6, 4, none⟩ a4) := (((((Wr.refl W b6).set rfl _).set rfl _).set rfl _).set rfl _).set rfl _
  refine ⟨?_, ho.grow hb hne hw, hw.ext e hn⟩
  obtain ⟨z0, z1, z2, z3, z4, rfl⟩ : ∃ z0 z1 z2 z3 z4, z = #[z0, z1, z2, z3, z4] := by
    obtain ⟨l⟩ := z
    match l, hz with
    | [z0, z1, z2, z3, z4], _ => exact ⟨_, _, _, _, _, rfl⟩
  exact ((((hb.set_ 0 a0).set_ 1 a1).set_ 2 a2).set_ 3 a3).set_ 4 a4
theorem setS_valid {S : List Bx} (h : setErr S = 0) : ∀ b ∈ S, bxErr b = 0 := by
  unfold setErr at h
  by_cases h5 : 512 < S.length
  · rw [if_pos h5] at h; cases h
  · rw [if_neg h5] at h
    clear h5
    induction S with
    | nil => intro b hb; cases hb
    | cons a S ih =>
      rw [boxesErr] at h
      by_cases ha : bxErr a = 0
      · intro b hb
        rcases List.mem_cons.1 hb with rfl | hb
        · exact ha
        · exact ih (by simpa [ha] using h) b hb
      · simp [ha] at h
section
variable (A : Option Addr) (n c : Nat) (home : Int) (l : List Body) (d : Drf) (tick : Int) (B : Option Addr) (m0 e0 : Nat) (S : List Bx) (M : Option Addr) (k0 k1 : Nat) (cm : Camp) (A2 : Option Addr) (n2 c2 : Nat) (w : World)
set_option maxRecDepth 20000 in
set_option maxHeartbeats 16000000 in
theorem pVerify_c (hl : Bodies w A n l) (hk : Keys w A2 n2 cm.keys) (hM : Miss w M k0 cm.missions) (hS : Bxs w B m0 S) :
    Calls Tryz.prog 34 #[.agg #[.slice A n c, .int .i64 home], .agg #[.int .i64 d.light.lo, .int .i64 d.light.hi, .int .i64 d.heat.lo, .int .i64 d.heat.hi, .int .i64 d.gas], .int .i64 tick, .slice B m0 e0, .agg #[.slice M k0 k1, .int .i64 cm.body.lo, .int .i64 cm.body.hi, .int .i64 cm.fast, .int .i64 cm.fails, .int .i64 cm.miss, .int .i64 cm.ticks, .slice A2 n2 c2]] w fun e w' =>
      ∃ A' n' k', e = .returned (.tuple #[.agg (vdV (verV l home d cm tick S) A' n' k'), .int .i64 (verErr l home d cm tick S)]) ∧ OwnInts w.heap.size w' (.slice A' n' k') (verV l home d cm tick S).failed ∧ Ext w w' := by
  have HW := Lib.hid fun W (hW : Ext w W) => CheckWorld_c A n c home l W (Bodies.ext hW hl)
  have HD := Lib.hid fun W => fCheckDrift_c d.light.lo d.light.hi d.heat.lo d.heat.hi d.gas W
  have HC := Lib.hid fun W (hW : Ext w W) => pCamp_c M k0 k1 A2 n2 c2 cm W (Miss.ext hW hM) (Keys.ext hW hk)
  have HI := Lib.hid fun W => pWithin_c tick 0 (1073741824 - cm.ticks) W
  have HSE := Lib.hid fun W (hW : Ext w W) => oCheckSet_c B m0 e0 S W (Bxs.ext hW hS)
  have HCT := Lib.hid fun (h : campErr cm = 0) => (campErr_ok.1 h).2.2.2.2.2.2.1
  have HVR := Lib.hid fun (hc : campErr cm = 0) (hv : setErr S = 0) (ht : within tick 0 (1073741824 - cm.ticks) = true) W (hW : Ext w W) => pVer_c M k0 k1 cm A2 n2 c2 A n c home l d tick B m0 e0 S W (Bodies.ext hW hl) (Keys.ext hW hk) (Miss.ext hW hM) (Bxs.ext hW hS) hc (setS_valid hv) (by have := (within_iff _ _ _).1 ht; have := (campErr_ok.1 hc).2.2.2.2.2.2.1; omega)
  have hlen := hS.len
  unfold verV
  generalize verM l home d cm tick S = VM at *
  obtain ⟨T, hT⟩ : ∃ T, verErr l home d cm tick S = T := ⟨_, rfl⟩
  rw [hT]
  unfold verErr at hT
  rw [← hlen] at hT
  obtain ⟨VV, hVV⟩ : ∃ VV, VV = (if T = 0 then VM else zeroV) := ⟨_, rfl⟩
  rw [← hVV]
  have HVV := Lib.hid hVV
  clear hVV
  generalize wldErr ⟨l, home⟩ = E0 at *
  generalize driftErr _ = E1 at *
  generalize campErr cm = E2 at *
  generalize setErr S = E4 at *
  have HVR2 := Lib.hid HVR.out
  generalize within tick 0 (1073741824 - cm.ticks) = q3 at *
  have HT := Lib.hid hT
  clear hl hk hM hS hlen hT HVR
  go_enter Tryz.func34, Tryz.ntmps34
  go_wp2_with fail
  refine (HW.out _ ext_by).mono ?_
  rintro e w1 ⟨rfl, h1⟩
  have B5 : Blk w1 w.heap.size 24 #[.slice A n c, .int .i64 home] := ((((Blk.newAt rfl).alloc _).alloc _).alloc _).ext h1
  have B6 : Blk w1 (w.heap.size + 1) 52 #[.int .i64 d.light.lo, .int .i64 d.light.hi, .int .i64 d.heat.lo, .int .i64 d.heat.hi, .int .i64 d.gas] := (((Blk.newAt (by simp)).alloc _).alloc _).ext h1
  have B9 : Blk w1 (w.heap.size + 1 + 1) 36 #[.slice M k0 k1, .int .i64 cm.body.lo, .int .i64 cm.body.hi, .int .i64 cm.fast, .int .i64 cm.fails, .int .i64 cm.miss, .int .i64 cm.ticks, .slice A2 n2 c2] := ((Blk.newAt (by simp)).alloc _).ext h1
  have B10 : Blk w1 (w.heap.size + 1 + 1 + 1) 58 #[.bool false, .int .i64 0, .slice none 0 0, .int .i64 0, .int .i64 0] := (Blk.newAt (by simp)).ext h1
  have E : Ext w w1 := ext_by
  clear h1 HW
  by_cases g_E0 : E0 = 0
  · subst g_E0
    have hT := HT.out
    rw [if_neg (by simp)] at hT
    replace HT := Lib.hid hT
    clear hT
    have c_B5 := B5.cell; have f_B5 := B5.frozen; have l_B5 := B5.lt; have c_B6 := B6.cell; have f_B6 := B6.frozen; have l_B6 := B6.lt; have c_B9 := B9.cell; have f_B9 := B9.frozen; have l_B9 := B9.lt
    go_wp2_with fail
    refine (HD.out _).mono ?_
    rintro e w3 ⟨rfl, h3⟩
    clear c_B5 f_B5 l_B5 c_B6 f_B6 l_B6 c_B9 f_B9 l_B9
    replace B5 := B5.ext h3
    replace B6 := B6.ext h3
    replace B9 := B9.ext h3
    replace B10 := B10.ext h3
    replace E := E.trans h3
    clear h3 HD
    by_cases g_E1 : E1 = 0
    · subst g_E1
      have hT := HT.out
      rw [if_neg (by simp)] at hT
      replace HT := Lib.hid hT
      clear hT
      have c_B5 := B5.cell; have f_B5 := B5.frozen; have l_B5 := B5.lt; have c_B6 := B6.cell; have f_B6 := B6.frozen; have l_B6 := B6.lt; have c_B9 := B9.cell; have f_B9 := B9.frozen; have l_B9 := B9.lt
      go_wp2_with fail
      refine (HC.out _ ext_by).mono ?_
      rintro e w4 ⟨rfl, h4⟩
      clear c_B5 f_B5 l_B5 c_B6 f_B6 l_B6 c_B9 f_B9 l_B9
      replace B5 := B5.ext h4
      replace B6 := B6.ext h4
      replace B9 := B9.ext h4
      replace B10 := B10.ext h4
      replace E := E.trans h4
      clear h4 HC
      by_cases g_E2 : E2 = 0
      · subst g_E2
        have hT := HT.out
        rw [if_neg (by simp)] at hT
        replace HT := Lib.hid hT
        clear hT
        have hct := HCT.out rfl
        clear HCT
        have c_B5 := B5.cell; have f_B5 := B5.frozen; have l_B5 := B5.lt; have c_B6 := B6.cell; have f_B6 := B6.frozen; have l_B6 := B6.lt; have c_B9 := B9.cell; have f_B9 := B9.frozen; have l_B9 := B9.lt
        go_wp2_with fail
        refine (HI.out _).mono ?_
        rintro e w5 ⟨rfl, h5⟩
        clear c_B5 f_B5 l_B5 c_B6 f_B6 l_B6 c_B9 f_B9 l_B9
        replace B5 := B5.ext h5
        replace B6 := B6.ext h5
        replace B9 := B9.ext h5
        replace B10 := B10.ext h5
        replace E := E.trans h5
        clear h5 HI
        cases q3
        · have hT := HT.out
          rw [if_pos rfl] at hT
          subst hT
          have hVV := HVV.out
          rw [if_neg (by decide)] at hVV
          subst hVV
          clear HT HVR2 HVV
          have c_B10 := B10.cell; have f_B10 := B10.frozen; have l_B10 := B10.lt
          (try dsimp only); repeat' (first | go_values | go_skip | go_guarded | go_step | go_upon | go_in | go_at_K)
          refine name_world _ ?_
          intro W9 hW9
          have Q10 : Blk W9 (w.heap.size + 1 + 1 + 1) 58 #[.bool false, .int .i64 0, .slice none 0 0, .int .i64 0, .int .i64 0] := by rw [hW9]; exact ((((B10.set_ 0 (.bool false)).set_ 1 (.int .i64 0)).set_ 2 (.slice none 0 0)).set_ 3 (.int .i64 0)).set_ 4 (.int .i64 0)
          have QE : Ext w W9 := by rw [hW9]; exact ((((E.set (by dsimp only; omega) _).set (by dsimp only; omega) _).set (by dsimp only; omega) _).set (by dsimp only; omega) _).set (by dsimp only; omega) _
          clear hW9
          have c_Q10 := Q10.cell; have f_Q10 := Q10.frozen; have l_Q10 := Q10.lt
          (try simp only [Exit.inBlock, Exit.then]); apply bodyPost_ret; (focus (simp only [results, Tryz.results34]; go_simp; try rfl)); rfl
          exact ⟨none, 0, 0, rfl, OwnInts.nil _ _, QE⟩
        · have hT := HT.out
          rw [if_neg (by simp)] at hT
          replace HT := Lib.hid hT
          clear hT
          have c_B5 := B5.cell; have f_B5 := B5.frozen; have l_B5 := B5.lt; have c_B6 := B6.cell; have f_B6 := B6.frozen; have l_B6 := B6.lt; have c_B9 := B9.cell; have f_B9 := B9.frozen; have l_B9 := B9.lt
          go_wp2_with fail
          refine (HSE.out _ ext_by).mono ?_
          rintro e w6 ⟨rfl, h6⟩
          clear c_B5 f_B5 l_B5 c_B6 f_B6 l_B6 c_B9 f_B9 l_B9
          replace B5 := B5.ext h6
          replace B6 := B6.ext h6
          replace B9 := B9.ext h6
          replace B10 := B10.ext h6
          replace E := E.trans h6
          clear h6 HSE
          by_cases g_E4 : E4 = 0
          · subst g_E4
            have hT := HT.out
            rw [if_neg (by simp)] at hT
            replace HT := Lib.hid hT
            clear hT
            by_cases g5 : 40 < m0
            · have hT := HT.out
              rw [if_pos g5] at hT
              subst hT
              have hVV := HVV.out
              rw [if_neg (by decide)] at hVV
              subst hVV
              clear HT HVR2 HVV
              have c_B10 := B10.cell; have f_B10 := B10.frozen; have l_B10 := B10.lt
              (try dsimp only); repeat' (first | go_values | go_skip | go_guarded | go_step | go_upon | go_in | go_at_K)
              refine name_world _ ?_
              intro W9 hW9
              have Q10 : Blk W9 (w.heap.size + 1 + 1 + 1) 58 #[.bool false, .int .i64 0, .slice none 0 0, .int .i64 0, .int .i64 0] := by rw [hW9]; exact ((((B10.set_ 0 (.bool false)).set_ 1 (.int .i64 0)).set_ 2 (.slice none 0 0)).set_ 3 (.int .i64 0)).set_ 4 (.int .i64 0)
              have QE : Ext w W9 := by rw [hW9]; exact ((((E.set (by dsimp only; omega) _).set (by dsimp only; omega) _).set (by dsimp only; omega) _).set (by dsimp only; omega) _).set (by dsimp only; omega) _
              clear hW9
              have c_Q10 := Q10.cell; have f_Q10 := Q10.frozen; have l_Q10 := Q10.lt
              (try simp only [Exit.inBlock, Exit.then]); apply bodyPost_ret; (focus (simp only [results, Tryz.results34]; go_simp; try rfl)); rfl
              exact ⟨none, 0, 0, rfl, OwnInts.nil _ _, QE⟩
            · have hT := HT.out
              rw [if_neg g5] at hT
              subst hT
              have hVV := HVV.out
              rw [if_pos rfl] at hVV
              subst hVV
              have HV := Lib.hid (HVR2.out (by simp) (by simp) (by simp))
              clear HT HVR2 HVV
              have c_B5 := B5.cell; have f_B5 := B5.frozen; have l_B5 := B5.lt; have c_B6 := B6.cell; have f_B6 := B6.frozen; have l_B6 := B6.lt; have c_B9 := B9.cell; have f_B9 := B9.frozen; have l_B9 := B9.lt
              go_wp2_with fail
              refine (HV.out _ ext_by).mono ?_
              rintro e w7 ⟨A', n', k', rfl, ho, h7⟩
              clear c_B5 f_B5 l_B5 c_B6 f_B6 l_B6 c_B9 f_B9 l_B9
              replace B10 := B10.ext h7
              have HO := Lib.hid (ho.mono (base' := w.heap.size) E.size)
              replace E := E.trans h7
              clear ho h7 HV
              have c_B10 := B10.cell; have f_B10 := B10.frozen; have l_B10 := B10.lt
              (try dsimp only); repeat' (first | go_values | go_skip | go_guarded | go_step | go_upon | go_in | go_at_K)
              refine name_world _ ?_
              intro W9 hW9
              obtain ⟨Q10, QO, QE⟩ : Blk W9 (w.heap.size + 1 + 1 + 1) 58 (vdV VV A' n' k') ∧ OwnInts w.heap.size W9 (.slice A' n' k') VV.failed ∧ Ext w W9 := by rw [hW9]; exact ver_put rfl E B10 (by decide) HO.out (by omega)
              have HQ := Lib.hid QO
              clear hW9 QO
              have c_Q10 := Q10.cell; have f_Q10 := Q10.frozen; have l_Q10 := Q10.lt
              (try simp only [Exit.inBlock, Exit.then]); apply bodyPost_ret; (focus (simp only [results, Tryz.results34]; go_simp; try rfl)); rfl
              exact ⟨A', n', k', rfl, HQ.out, QE⟩
          · have hT := HT.out
            rw [if_pos g_E4] at hT
            subst hT
            have hVV := HVV.out
            rw [if_neg g_E4] at hVV
            subst hVV
            clear HT HVR2 HVV
            have c_B10 := B10.cell; have f_B10 := B10.frozen; have l_B10 := B10.lt
            (try dsimp only); repeat' (first | go_values | go_skip | go_guarded | go_step | go_upon | go_in | go_at_K)
            refine name_world _ ?_
            intro W9 hW9
            have Q10 : Blk W9 (w.heap.size + 1 + 1 + 1) 58 #[.bool false, .int .i64 0, .slice none 0 0, .int .i64 0, .int .i64 0] := by rw [hW9]; exact ((((B10.set_ 0 (.bool false)).set_ 1 (.int .i64 0)).set_ 2 (.slice none 0 0)).set_ 3 (.int .i64 0)).set_ 4 (.int .i64 0)
            have QE : Ext w W9 := by rw [hW9]; exact ((((E.set (by dsimp only; omega) _).set (by dsimp only; omega) _).set (by dsimp only; omega) _).set (by dsimp only; omega) _).set (by dsimp only; omega) _
            clear hW9
            have c_Q10 := Q10.cell; have f_Q10 := Q10.frozen; have l_Q10 := Q10.lt
            (try simp only [Exit.inBlock, Exit.then]); apply bodyPost_ret; (focus (simp only [results, Tryz.results34]; go_simp; try rfl)); rfl
            exact ⟨none, 0, 0, rfl, OwnInts.nil _ _, QE⟩
      · have hT := HT.out
        rw [if_pos g_E2] at hT
        subst hT
        have hVV := HVV.out
        rw [if_neg g_E2] at hVV
        subst hVV
        clear HT HVR2 HVV
        have c_B10 := B10.cell; have f_B10 := B10.frozen; have l_B10 := B10.lt
        (try dsimp only); repeat' (first | go_values | go_skip | go_guarded | go_step | go_upon | go_in | go_at_K)
        refine name_world _ ?_
        intro W9 hW9
        have Q10 : Blk W9 (w.heap.size + 1 + 1 + 1) 58 #[.bool false, .int .i64 0, .slice none 0 0, .int .i64 0, .int .i64 0] := by rw [hW9]; exact ((((B10.set_ 0 (.bool false)).set_ 1 (.int .i64 0)).set_ 2 (.slice none 0 0)).set_ 3 (.int .i64 0)).set_ 4 (.int .i64 0)
        have QE : Ext w W9 := by rw [hW9]; exact ((((E.set (by dsimp only; omega) _).set (by dsimp only; omega) _).set (by dsimp only; omega) _).set (by dsimp only; omega) _).set (by dsimp only; omega) _
        clear hW9
        have c_Q10 := Q10.cell; have f_Q10 := Q10.frozen; have l_Q10 := Q10.lt
        (try simp only [Exit.inBlock, Exit.then]); apply bodyPost_ret; (focus (simp only [results, Tryz.results34]; go_simp; try rfl)); rfl
        exact ⟨none, 0, 0, rfl, OwnInts.nil _ _, QE⟩
    · have hT := HT.out
      rw [if_pos g_E1] at hT
      subst hT
      have hVV := HVV.out
      rw [if_neg g_E1] at hVV
      subst hVV
      clear HT HVR2 HVV
      have c_B10 := B10.cell; have f_B10 := B10.frozen; have l_B10 := B10.lt
      (try dsimp only); repeat' (first | go_values | go_skip | go_guarded | go_step | go_upon | go_in | go_at_K)
      refine name_world _ ?_
      intro W9 hW9
      have Q10 : Blk W9 (w.heap.size + 1 + 1 + 1) 58 #[.bool false, .int .i64 0, .slice none 0 0, .int .i64 0, .int .i64 0] := by rw [hW9]; exact ((((B10.set_ 0 (.bool false)).set_ 1 (.int .i64 0)).set_ 2 (.slice none 0 0)).set_ 3 (.int .i64 0)).set_ 4 (.int .i64 0)
      have QE : Ext w W9 := by rw [hW9]; exact ((((E.set (by dsimp only; omega) _).set (by dsimp only; omega) _).set (by dsimp only; omega) _).set (by dsimp only; omega) _).set (by dsimp only; omega) _
      clear hW9
      have c_Q10 := Q10.cell; have f_Q10 := Q10.frozen; have l_Q10 := Q10.lt
      (try simp only [Exit.inBlock, Exit.then]); apply bodyPost_ret; (focus (simp only [results, Tryz.results34]; go_simp; try rfl)); rfl
      exact ⟨none, 0, 0, rfl, OwnInts.nil _ _, QE⟩
  · have hT := HT.out
    rw [if_pos g_E0] at hT
    subst hT
    have hVV := HVV.out
    rw [if_neg g_E0] at hVV
    subst hVV
    clear HT HVR2 HVV
    have c_B10 := B10.cell; have f_B10 := B10.frozen; have l_B10 := B10.lt
    (try dsimp only); repeat' (first | go_values | go_skip | go_guarded | go_step | go_upon | go_in | go_at_K)
    refine name_world _ ?_
    intro W9 hW9
    have Q10 : Blk W9 (w.heap.size + 1 + 1 + 1) 58 #[.bool false, .int .i64 0, .slice none 0 0, .int .i64 0, .int .i64 0] := by rw [hW9]; exact ((((B10.set_ 0 (.bool false)).set_ 1 (.int .i64 0)).set_ 2 (.slice none 0 0)).set_ 3 (.int .i64 0)).set_ 4 (.int .i64 0)
    have QE : Ext w W9 := by rw [hW9]; exact ((((E.set (by dsimp only; omega) _).set (by dsimp only; omega) _).set (by dsimp only; omega) _).set (by dsimp only; omega) _).set (by dsimp only; omega) _
    clear hW9
    have c_Q10 := Q10.cell; have f_Q10 := Q10.frozen; have l_Q10 := Q10.lt
    (try simp only [Exit.inBlock, Exit.then]); apply bodyPost_ret; (focus (simp only [results, Tryz.results34]; go_simp; try rfl)); rfl
    exact ⟨none, 0, 0, rfl, OwnInts.nil _ _, QE⟩
end
end Go.Proofs.YtiladlangkjoiaaGreat

namespace Go.Proofs.YtiladlangkjoiaaGreat
open Go.RowKit

set_option maxHeartbeats 1000000 in
theorem one8_c (a : Int) (w : World) : Calls Tryz.prog 44 #[.int .i64 a] w fun e w' => e = .returned (.agg #[.int .i64 a, .int .i64 a]) ∧ Ext w w' := by
  go_enter Tryz.func44, Tryz.ntmps44
  go_wp2_with fail
  (try simp only [Exit.inBlock, Exit.then]); apply bodyPost_ret; (focus (simp only [results, Tryz.results44]; go_simp; try rfl)); rfl
  exact ⟨rfl, ext_by⟩
theorem still8_bodies {w : World} {b1 b3 : Nat} {t1 t3 : TypeId} (h1 : Blk w b1 t1 #[.int .i64 0, .int .i64 0]) (h3 : Blk w b3 t3 #[.int .i64 0, .int .i64 10, .slice (some ⟨b1, 0, none⟩) 1 1]) :
    Bodies w (some ⟨b3, 0, none⟩) 1 stillP :=
  ⟨rfl, by decide, .inr ⟨b3, 0, rfl, fun k hk => by
    have : k = 0 := by have : k < 1 := hk; omega
    subst this
    exact ⟨h3.cell 0, h3.cell 1, _, _, _, h3.cell 2, ⟨rfl, by decide, .inr ⟨b1, 0, rfl, fun j hj => by
      have : j = 0 := by have : j < 1 := hj; omega
      subst this
      exact ⟨h1.cell 0, h1.cell 1⟩⟩⟩⟩⟩⟩
set_option maxHeartbeats 1000000 in
theorem still8_c (w : World) :
    Calls Tryz.prog 67 #[] w fun e w' => (∃ A c, e = .returned (.agg #[.slice A 1 c, .int .i64 0]) ∧ Bodies w' A 1 stillP) ∧ Ext w w' := by
  go_enter Tryz.func67, Tryz.ntmps67
  go_wp2_with fail
  (try simp only [Exit.inBlock, Exit.then]); apply bodyPost_ret; (focus (simp only [results, Tryz.results67]; go_simp; try rfl)); rfl
  refine ⟨⟨_, _, rfl, still8_bodies (t1 := 28) (t3 := 128) (b1 := w.heap.size + 1) (b3 := w.heap.size + 1 + 1) ?_ ?_⟩, ext_by⟩
  · exact (Blk.newAt (by simp)).alloc _
  · exact Blk.newAt (by simp)
set_option maxRecDepth 20000 in
set_option maxHeartbeats 2000000 in
theorem imp8_c (w : World) : Calls Tryz.prog 69 #[] w fun e w' => e = .returned (misV impM) ∧ Ext w w' := by
  have H := Lib.hid fun W => one8_c 100 W
  go_enter Tryz.func69, Tryz.ntmps69
  go_wp2_with fail
  refine (H.out _).mono ?_
  rintro e w1 ⟨rfl, h1⟩
  have B : Blk w1 w.heap.size 30 #[.int .i64 0, .int .i64 0, .int .i64 0, .int .i64 0, .int .i64 0, .int .i64 0, .int .i64 0, .int .i64 0, .int .i64 0, .int .i64 0, .int .i64 0, .int .i64 0, .bool false, .int .i64 0] := (Blk.newAt rfl).ext h1
  have E : Ext w w1 := ext_by
  clear h1 H
  have c_B := B.cell; have f_B := B.frozen; have l_B := B.lt
  (try dsimp only); repeat' (first | go_values | go_skip | go_guarded | go_step | go_upon | go_in | go_at_K)
  refine name_world _ ?_
  intro W9 hW9
  have Q : Blk W9 w.heap.size 30 #[.int .i64 1, .int .i64 0, .int .i64 10, .int .i64 1, .int .i64 100, .int .i64 100, .int .i64 0, .int .i64 0, .int .i64 2000, .int .i64 3000, .int .i64 0, .int .i64 0, .bool false, .int .i64 5] := by
    rw [hW9]; exact blk_set2 (blk_set2 (blk_set2 (blk_set2 (blk_set2 (blk_set2 (blk_set2 B rfl) rfl) rfl) rfl) rfl) rfl) rfl
  have QE : Ext w W9 := by
    rw [hW9]; exact ext_set2 (ext_set2 (ext_set2 (ext_set2 (ext_set2 (ext_set2 (ext_set2 E (by omega)) (by omega)) (by omega)) (by omega)) (by omega)) (by omega)) (by omega)
  clear hW9
  have c_Q := Q.cell; have f_Q := Q.frozen; have l_Q := Q.lt
  (try simp only [Exit.inBlock, Exit.then]); apply bodyPost_ret; (focus (simp only [results, Tryz.results69]; go_simp; try rfl)); rfl
  exact ⟨rfl, QE⟩
set_option maxRecDepth 20000 in
set_option maxHeartbeats 2000000 in
theorem box8_c (x y u v : Int) (w : World) : Calls Tryz.prog 68 #[.int .i64 x, .int .i64 y, .int .i64 u, .int .i64 v] w fun e w' => e = .returned (bxV (aloneB ⟨x, y, u, v⟩)) ∧ Ext w w' := by
  have H := Lib.hid fun a W => one8_c a W
  go_enter Tryz.func68, Tryz.ntmps68
  go_wp2_with fail
  refine (H.out x _).mono ?_
  rintro e w1 ⟨rfl, h1⟩
  go_wp2_with fail
  refine (H.out y _).mono ?_
  rintro e w2 ⟨rfl, h2⟩
  go_wp2_with fail
  refine (H.out u _).mono ?_
  rintro e w3 ⟨rfl, h3⟩
  go_wp2_with fail
  refine (H.out v _).mono ?_
  rintro e w4 ⟨rfl, h4⟩
  have B8 : Blk w4 w.heap.size 48 #[.int .i64 0, .int .i64 0, .int .i64 0, .int .i64 0, .int .i64 0, .int .i64 0, .int .i64 0, .int .i64 0] := ((((Blk.newAt rfl).ext h1).ext h2).ext h3).ext h4
  have E : Ext w w4 := ext_by
  clear h1 h2 h3 h4 H
  have c_B8 := B8.cell; have f_B8 := B8.frozen; have l_B8 := B8.lt
  (try dsimp only); repeat' (first | go_values | go_skip | go_guarded | go_step | go_upon | go_in | go_at_K)
  refine name_world _ ?_
  intro W9 hW9
  have Q8 : Blk W9 (w.heap.size) 48 #[.int .i64 x, .int .i64 x, .int .i64 y, .int .i64 y, .int .i64 u, .int .i64 u, .int .i64 v, .int .i64 v] := by rw [hW9]; exact blk_set2 (blk_set2 (blk_set2 (blk_set2 B8 rfl) rfl) rfl) rfl
  have QE : Ext w W9 := by rw [hW9]; exact ext_set2 (ext_set2 (ext_set2 (ext_set2 E (by omega)) (by omega)) (by omega)) (by omega)
  clear hW9
  have c_Q8 := Q8.cell; have f_Q8 := Q8.frozen; have l_Q8 := Q8.lt
  (try simp only [Exit.inBlock, Exit.then]); apply bodyPost_ret; (focus (simp only [results, Tryz.results68]; go_simp; try rfl)); rfl
  exact ⟨rfl, QE⟩
set_option maxRecDepth 20000 in
set_option maxHeartbeats 4000000 in
theorem awake8_c (w : World) : Calls Tryz.prog 21 #[] w fun e w' => e = .returned (.bool true) ∧ Ext w w' := by
  go_enter Tryz.func21, Tryz.ntmps21
  go_wp2_with fail
  refine (still8_c _).mono ?_
  rintro e w1 ⟨⟨A1, c1, rfl, hs1⟩, h1⟩
  go_wp2_with fail
  refine (imp8_c _).mono ?_
  rintro e w2 ⟨rfl, h2⟩
  go_wp2_with fail
  refine (one8_c _ _).mono ?_
  rintro e w3 ⟨rfl, h3⟩
  go_wp2_with fail
  refine (box8_c _ _ _ _ _).mono ?_
  rintro e w4 ⟨rfl, h4⟩
  have hs4 := Bodies.ext (show Ext w1 w4 by exact ext_by) hs1
  have E4 : Ext w w4 := ext_by
  clear hs1 h1 h2 h3 h4
  dsimp only [bxV, aloneB]
  go_wp2_with fail
  refine (pDoesT_c impM A1 1 c1 0 stillP ⟨1000, 1000⟩ 10 (aloneB ⟨100, -20, -40, 0⟩) _ hs4).mono ?_
  rw [imp_err, imp_does]
  rintro e w5 ⟨rfl, h5⟩
  have E5 := E4.trans h5
  clear h5 E4 hs4
  unfold arV
  dsimp only
  go_wp2_with fail
  refine (still8_c _).mono ?_
  rintro e w6 ⟨⟨A2, c2, rfl, hs6⟩, h6⟩
  have B1 : Blk w6 w5.heap.size 32 #[.int .i64 10, .int .i64 15, .int .i64 (-1), .int .i64 0] := (Blk.newAt rfl).ext h6
  have E6 : Ext w w6 := (E5.alloc _).trans h6
  clear h6 E5
  go_wp2_with fail
  refine (box8_c _ _ _ _ _).mono ?_
  rintro e w7 ⟨rfl, h7⟩
  dsimp only [bxV, aloneB]
  go_wp2_with fail
  refine (one8_c _ _).mono ?_
  rintro e w8 ⟨rfl, h8⟩
  have BB : Blk w8 w7.heap.size 48 #[.int .i64 120, .int .i64 120, .int .i64 0, .int .i64 0, .int .i64 (-10), .int .i64 (-10), .int .i64 0, .int .i64 0] := (Blk.newAt rfl).ext h8
  have hs8 := Bodies.ext (show Ext w6 w8 by exact ext_by) hs6
  have B18 := B1.ext (show Ext w6 w8 by exact ext_by)
  have E8 : Ext w w8 := ext_by
  have hl1 : w5.heap.size < w8.heap.size := B18.lt
  clear h7 h8 hs6 B1 E6
  have hbx : Bxs w8 (some ⟨w7.heap.size, 0, none⟩) 1 [aloneB ⟨120, 0, -10, 0⟩] := bx_slice (t := 48) [aloneB ⟨120, 0, -10, 0⟩] BB (by decide)
  go_wp2_with fail
  refine (pVerify_c A2 1 c2 0 stillP noD 8 (some ⟨w7.heap.size, 0, none⟩) 1 1 [aloneB ⟨120, 0, -10, 0⟩] none 0 0 hitC none 0 0 _ hs8 (SlR.nil _ _ _) (SlR.nil _ _ _) hbx).mono ?_
  rw [hit_err, hit_ver]
  rintro e w9 ⟨A', n', k', rfl, _, h9⟩
  have B19 := B18.ext h9
  have c_B19 := B19.cell; have f_B19 := B19.frozen; have l_B19 := B19.lt
  have E9 := E8.trans h9
  clear h9 hbx BB B18 hs8
  dsimp only [vdV]
  go_wp2_with fail
  go_ret
  exact ⟨rfl, ext_by⟩
end Go.Proofs.YtiladlangkjoiaaGreat
