/- Sets that are filtered, split and refined: the program. No condition. All boxes of a set, stepped, and a set after some ticks: the program. No condition. -/
import Derived.Test.YtfniicgoeljmdaaGreatFilter
import Derived.Test.YtfniicgoeljmdaaGreatAwakeFour
namespace Go.Proofs.YtfniicgoeljmdaaGreat
open Go.RowKit

def fltErr (s : Sky) (tick : Int) (l : List Bx) (sg : List Sight) : Int := if skyErr s ≠ 0 then skyErr s else if within tick 0 1073741824 = false then 2 else if setErr l ≠ 0 then setErr l else sgsErr s sg
def halfB (b : Bx) : List Bx := if splitOk b then [partL b, partR b] else [b]
def halfL (l : List Bx) : List Bx := l.flatMap halfB
theorem half_len (l : List Bx) : (halfL l).length ≤ 2 * l.length := by
  induction l with
  | nil => simp [halfL]
  | cons b r ih =>
    have h : (halfB b).length ≤ 2 := by unfold halfB; split <;> simp
    simp only [halfL, List.flatMap_cons, List.length_append, List.length_cons] at ih ⊢
    omega
theorem own_app {base : Nat} {w0 w w' : World} {v v' : Value} {l r : List Bx} {n : Nat} (h : OwnBxs base w v l) (e0 : Ext w0 w) (hb : w0.heap.size ≤ base) (hn : n = r.length) (ho : w'.ownsRow base 38 8 v' (l.length + n) (l.flatMap bxC ++ r.flatMap bxC)) (hg : w.grownBy w' v.ownBlock) : OwnBxs base w' v' (l ++ r) ∧ Ext w0 w' :=
  ⟨OwnBxs.ofApp hn ho, own_ext e0 h hg hb⟩
set_option maxRecDepth 20000 in
set_option maxHeartbeats 4000000 in
theorem oHalves_c (A : Option Addr) (n c : Nat) (l : List Bx) (w : World) (hl : Bxs w A n l) (hn : n ≤ 2000) :
    Calls Tryz.prog 108 #[.slice A n c] w fun e w' => ∃ v, e = .returned v ∧ OwnBxs w.heap.size w' v (halfL l) ∧ Ext w w' := by
  have HLn := Lib.hid hl.len
  have HL := Lib.hid fun W (hW : Ext w W) => Bxs.ext hW hl
  obtain ⟨ic, hic, hc0, hc1, hc2⟩ := info_parts info_box
  have HK := Lib.hid fun x W => oSplit_c x W
  obtain ⟨T, hT⟩ : ∃ T, halfL l = T := ⟨_, rfl⟩
  have hTl : T.length ≤ 4000 := by rw [← hT]; have := half_len l; have := hl.len; omega
  have HT := Lib.hid hT
  rw [hT]
  clear hl hT
  go_enter Tryz.func108, Tryz.ntmps108
  go_wp2_with fail
  go_loopw [3, 11] (fun o i wr => ∃ (k : Nat) (acc : List Bx), k ≤ n ∧ i = .int .i64 k ∧ Hid (acc ++ halfL (l.drop k) = T) ∧ Hid (OwnBxs w.heap.size wr o acc) ∧ Ext w wr) (fun _ i _ => n - (intOf i).toNat)
  case atStart => exact ⟨0, [], Nat.zero_le _, rfl, Lib.hid HT.out, OwnBxs.nil _ _, Ext.refl _⟩
  case round =>
    obtain ⟨k, acc, hk, rfl, HI, HO, E⟩ := hrel
    have hz := E.size
    by_cases hlt : k < n
    · obtain ⟨b, off, x, rfl, HD, _, hx⟩ := (HL.out wr E).one hlt
      have hi := HI.out
      have hlen := congrArg List.length hi
      rw [List.length_append] at hlen
      rw [HD.out, halfL, List.flatMap_cons, ← halfL, ← List.append_assoc] at hi
      obtain ⟨hx0, hx1, hx2, hx3, hx4, hx5, hx6, hx7⟩ := hx
      have hbl : b < wr.heap.size := World.block_lt_of_cell? wr _ hx0
      have HX := Lib.hid fun W => HK.out x W
      unfold splitV at HX
      unfold halfB at hi
      clear HI HD
      cases hs : splitOk x
      · rw [hs] at hi HX
        simp only [Bool.false_eq_true, if_false] at hi HX
        have Hi := Lib.hid hi
        clear hi hs
        obtain ⟨⟨xl, xh⟩, ⟨yl, yh⟩, ⟨ul, uh⟩, vl, vh⟩ := x
        dsimp only [bxV, zeroB] at hx0 hx1 hx2 hx3 hx4 hx5 hx6 hx7 HX
        go_wp2_with fail
        refine (HX.out _).mono ?_
        rintro e w5 ⟨rfl, h5⟩
        have B5 : Blk w5 wr.heap.size 38 #[.int .i64 xl, .int .i64 xh, .int .i64 yl, .int .i64 yh, .int .i64 ul, .int .i64 uh, .int .i64 vl, .int .i64 vh] := (Blk.new wr _ _).ext h5
        have E5 : Ext wr w5 := (Ext.alloc0 _ _).trans h5
        have HO5 := Lib.hid (OwnBxs.ext HO.out E5)
        have hz5 := E5.size
        have EE := E.trans E5
        clear h5 HO hx0 hx1 hx2 hx3 hx4 hx5 hx6 hx7 hbl E5
        have c_B5 := B5.cell; have f_B5 := B5.frozen; have l_B5 := B5.lt
        go_wp2_with (at_builtin; go_loud (refine wpList_append_sl rfl (.tmp 27) (.tmp 29) 39 rfl w.heap.size 38 ic _ 8 64 Tryz.underlying39 hic hc0 hc1 hc2 rfl (by decide) _ acc.length (acc.flatMap bxC) rfl (own_ext_keep HO5.out ext_by) (some ⟨_, 0, none⟩) 1 1 [.int .i64 xl, .int .i64 xh, .int .i64 yl, .int .i64 yh, .int .i64 ul, .int .i64 uh, .int .i64 vl, .int .i64 vh] rfl rfl (.inr ⟨_, rfl, new_cells (by simp)⟩) (by simp [Value.oneCell']) (by unfold maxLen; omega) (by omega) (by simp only [World.size_alloc]; omega) ?_))
        intro v' w6 ho6 hg6 _
        obtain ⟨ho, he⟩ := own_app (w0 := w) (OwnBxs.ext HO5.out ((((Ext.refl w5).alloc _).alloc _).alloc _)) (((EE.alloc _).alloc _).alloc _) (Nat.le_refl _) (show 1 = [(⟨⟨xl, xh⟩, ⟨yl, yh⟩, ⟨ul, uh⟩, vl, vh⟩ : Bx)].length from rfl) ho6 hg6
        have HO6 := Lib.hid ho
        clear ho ho6 hg6 HO5 EE
        clear c_B5 f_B5 l_B5
        clear B5
        go_wp2_with fail
        go_roundw
        case rel => exact ⟨k + 1, _, by omega, by go_num, Hi, HO6, he⟩
        case measure => simp [intOf]; omega
      · rw [hs] at hi HX
        simp only [if_true] at hi HX
        have Hi := Lib.hid hi
        clear hi hs
        generalize partL x = L at *
        generalize partR x = R at *
        obtain ⟨⟨xl, xh⟩, ⟨yl, yh⟩, ⟨ul, uh⟩, vl, vh⟩ := x
        obtain ⟨⟨lxl, lxh⟩, ⟨lyl, lyh⟩, ⟨lul, luh⟩, lvl, lvh⟩ := L
        obtain ⟨⟨rxl, rxh⟩, ⟨ryl, ryh⟩, ⟨rul, ruh⟩, rvl, rvh⟩ := R
        dsimp only [bxV] at hx0 hx1 hx2 hx3 hx4 hx5 hx6 hx7 HX
        go_wp2_with fail
        refine (HX.out _).mono ?_
        rintro e w5 ⟨rfl, h5⟩
        have E5 : Ext wr w5 := (Ext.alloc0 _ _).trans h5
        have HO5 := Lib.hid (OwnBxs.ext HO.out E5)
        have hz5 := E5.size
        have EE := E.trans E5
        clear h5 HO hx0 hx1 hx2 hx3 hx4 hx5 hx6 hx7 hbl E5
        go_wp2_with (at_builtin; go_loud (refine wpList_append_sl rfl (.tmp 22) (.tmp 25) 39 rfl w.heap.size 38 ic _ 8 64 Tryz.underlying39 hic hc0 hc1 hc2 rfl (by decide) _ acc.length (acc.flatMap bxC) rfl (own_ext_keep HO5.out ext_by) (some ⟨_, 0, none⟩) 2 2 [.int .i64 lxl, .int .i64 lxh, .int .i64 lyl, .int .i64 lyh, .int .i64 lul, .int .i64 luh, .int .i64 lvl, .int .i64 lvh, .int .i64 rxl, .int .i64 rxh, .int .i64 ryl, .int .i64 ryh, .int .i64 rul, .int .i64 ruh, .int .i64 rvl, .int .i64 rvh] rfl rfl (.inr ⟨_, rfl, new_cells (by simp)⟩) (by simp [Value.oneCell']) (by unfold maxLen; omega) (by omega) (by simp only [World.size_alloc]; omega) ?_))
        intro v' w6 ho6 hg6 _
        obtain ⟨ho, he⟩ := own_app (w0 := w) (OwnBxs.ext HO5.out ((((Ext.refl w5).alloc _).alloc _).alloc _)) (((EE.alloc _).alloc _).alloc _) (Nat.le_refl _) (show 2 = [(⟨⟨lxl, lxh⟩, ⟨lyl, lyh⟩, ⟨lul, luh⟩, lvl, lvh⟩ : Bx), ⟨⟨rxl, rxh⟩, ⟨ryl, ryh⟩, ⟨rul, ruh⟩, rvl, rvh⟩].length from rfl) ho6 hg6
        have HO6 := Lib.hid ho
        clear ho ho6 hg6 HO5 EE
        go_wp2_with fail
        go_roundw
        case rel => exact ⟨k + 1, _, by omega, by go_num, Hi, HO6, he⟩
        case measure => simp [intOf]; omega
    · have hkn : k = n := by omega
      subst hkn
      have hi := HI.out
      rw [HLn.out, List.drop_length] at hi
      have Hi : Hid (acc = T) := Lib.hid (by simpa [halfL] using hi)
      clear hi HI HLn
      go_wp2_with fail
      go_ret
      exact ⟨_, rfl, by rw [← Hi.out]; exact HO.out, E⟩
end Go.Proofs.YtfniicgoeljmdaaGreat

namespace Go.Proofs.YtfniicgoeljmdaaGreat
open Go.RowKit

def allB (f : Bx → Bx) (L : List Bx) : Bool := L.all fun b => decide (bxErr (f b) = 0)
theorem all_ok {f : Bx → Bx} {L : List Bx} (h : allB f L = true) : ∀ b ∈ L.map f, bxErr b = 0 := by
  intro b hb
  obtain ⟨c, hc, rfl⟩ := List.mem_map.1 hb
  have := List.all_eq_true.1 h c hc
  simpa using this
set_option maxRecDepth 20000 in
set_option maxHeartbeats 4000000 in
theorem oAll_c (A : Option Addr) (n c : Nat) (home : Int) (l : List Body) (d : Drf) (tick : Int) (B : Option Addr) (m e : Nat) (L : List Bx) (w : World) (hl : Bodies w A n l) (h1 : wdErr l home d = 0) (h2 : 0 ≤ tick ∧ tick ≤ 1073741824) (hL : Bxs w B m L) (hm : m ≤ 2000) (hv : ∀ b ∈ L, bxErr b = 0) :
    Calls Tryz.prog 77 #[.agg #[.slice A n c, .int .i64 home], .agg #[.int .i64 d.light.lo, .int .i64 d.light.hi, .int .i64 d.heat.lo, .int .i64 d.heat.hi, .int .i64 d.gas], .int .i64 tick, .slice B m e] w fun e w' =>
      ∃ v, e = .returned (.tuple #[v, .bool (allB (stepB l home d tick) L)]) ∧ OwnBxs w.heap.size w' v (if allB (stepB l home d tick) L then L.map (stepB l home d tick) else []) ∧ Ext w w' := by
  have HS := Lib.hid fun (b : Bx) (hb : bxErr b = 0) W (hW : Ext w W) => oStep0_c A n c home l d tick b W (Bodies.ext hW hl) h1 h2 hb
  have HLn := Lib.hid hL.len
  have HL := Lib.hid fun W (hW : Ext w W) => Bxs.ext hW hL
  have HV := Lib.hid hv
  obtain ⟨ic, hic, hc0, hc1, hc2⟩ := info_parts info_box
  generalize stepB l home d tick = f at *
  obtain ⟨K, hK⟩ : ∃ K, allB f L = K := ⟨_, rfl⟩
  obtain ⟨T, hT⟩ : ∃ T, L.map f = T := ⟨_, rfl⟩
  have hTl : T.length ≤ 2000 := by rw [← hT, List.length_map, ← hL.len]; exact hm
  rw [hK, hT]
  have HK := Lib.hid hK
  have HT := Lib.hid hT
  obtain ⟨⟨ll, lh⟩, ⟨hl', hh⟩, g⟩ := d
  dsimp only at HS ⊢
  clear hl h1 h2 hL hv hK hT
  go_enter Tryz.func77, Tryz.ntmps77
  go_wp2_with fail
  go_loopw [10, 17] (fun o i wr => ∃ (k : Nat) (acc : List Bx), k ≤ m ∧ i = .int .i64 k ∧ Hid (acc ++ (L.drop k).map f = T) ∧ Hid (allB f (L.drop k) = K) ∧ Hid (OwnBxs w.heap.size wr o acc) ∧ Hid (Blk wr w.heap.size 24 #[.slice A n c, .int .i64 home]) ∧ Hid (Blk wr (w.heap.size + 1) 28 #[.int .i64 ll, .int .i64 lh, .int .i64 hl', .int .i64 hh, .int .i64 g]) ∧ Ext w wr) (fun _ i _ => m - (intOf i).toNat)
  case atStart => exact ⟨0, [], Nat.zero_le _, rfl, Lib.hid HT.out, Lib.hid HK.out, OwnBxs.nil _ _, Lib.hid ((Blk.newAt rfl).alloc _), Lib.hid (Blk.newAt (by simp)), ext_by⟩
  case round =>
    obtain ⟨k, acc, hk, rfl, HI, HA, HO, B4, B5, E⟩ := hrel
    have hz := E.size
    by_cases hlt : k < m
    · obtain ⟨b, off, x, hB, HD, hxm, hx⟩ := (HL.out wr E).one hlt
      subst hB
      have hi := HI.out
      have ha := HA.out
      have hlen := congrArg List.length hi
      rw [List.length_append] at hlen
      rw [HD.out, List.map_cons] at hi
      rw [HD.out, allB, List.all_cons, ← allB] at ha
      obtain ⟨hx0, hx1, hx2, hx3, hx4, hx5, hx6, hx7⟩ := hx
      have hbl : b < wr.heap.size := World.block_lt_of_cell? wr _ hx0
      have HX := Lib.hid fun W (hW : Ext w W) => HS.out x (HV.out x hxm) W hW
      clear HI HA HD hxm
      generalize f x = y at *
      obtain ⟨Q, hQ⟩ : ∃ Q, decide (bxErr y = 0) = Q := ⟨_, rfl⟩
      rw [hQ] at ha HX
      have Hi := Lib.hid hi
      have Ha := Lib.hid ha
      clear hi ha hQ
      obtain ⟨⟨xl, xh⟩, ⟨yl, yh⟩, ⟨ul, uh⟩, vl, vh⟩ := x
      obtain ⟨⟨txl, txh⟩, ⟨tyl, tyh⟩, ⟨tul, tuh⟩, tvl, tvh⟩ := y
      dsimp only [bxV] at hx0 hx1 hx2 hx3 hx4 hx5 hx6 hx7 HX
      have c4 := B4.out.cell
      have c5 := B5.out.cell
      have l4 := B4.out.lt
      have l5 := B5.out.lt
      have l6 : w.heap.size < wr.heap.size + 1 := by omega
      have l7 : w.heap.size + 1 < wr.heap.size + 1 := by omega
      go_wp2_with fail
      refine (HX.out _ ext_by).mono ?_
      rintro e w5 ⟨rfl, h5⟩
      have E5 : Ext wr w5 := (Ext.alloc0 _ _).trans h5
      have HO5 := Lib.hid (OwnBxs.ext HO.out E5)
      have C4 := B4.out.ext E5
      have C5 := B5.out.ext E5
      have hz5 := E5.size
      have EE := E.trans E5
      clear h5 HO hx0 hx1 hx2 hx3 hx4 hx5 hx6 hx7 hbl E5 c4 c5 l4 l5 l6 l7 HX B4 B5
      cases Q
      · have HKf : Hid (false = K) := by have := Ha.out; rw [Bool.false_and] at this; exact this
        have hKf := HKf.out
        subst hKf
        clear Hi Ha HKf
        go_wp2_with fail
        (try simp only [Exit.inBlock, Exit.then]); apply bodyPost_ret; (focus (simp only [results, Tryz.results77]; go_simp; try rfl)); rfl
        exact ⟨_, rfl, by first | exact OwnBxs.nil _ _ | (simp only [Bool.false_eq_true, if_false]; exact OwnBxs.nil _ _), ext_by⟩
      · go_wp2_with (at_builtin; go_loud (refine wpList_append_sl rfl (.tmp 31) (.tmp 33) 39 rfl w.heap.size 38 ic _ 8 64 Tryz.underlying39 hic hc0 hc1 hc2 rfl (by decide) _ acc.length (acc.flatMap bxC) rfl (own_ext_keep HO5.out ext_by) (some ⟨_, 0, none⟩) 1 1 [.int .i64 txl, .int .i64 txh, .int .i64 tyl, .int .i64 tyh, .int .i64 tul, .int .i64 tuh, .int .i64 tvl, .int .i64 tvh] rfl rfl (.inr ⟨_, rfl, new_cells (by simp)⟩) (by simp [Value.oneCell']) (by unfold maxLen; omega) (by omega) (by simp only [World.size_alloc]; omega) ?_))
        intro v' w6 ho6 hg6 _
        have hx5 : Ext w5 ((w5.alloc (.cells #[.int .i64 txl, .int .i64 txh, .int .i64 tyl, .int .i64 tyh, .int .i64 tul, .int .i64 tuh, .int .i64 tvl, .int .i64 tvh] 38)).alloc (.cells #[.int .i64 txl, .int .i64 txh, .int .i64 tyl, .int .i64 tyh, .int .i64 tul, .int .i64 tuh, .int .i64 tvl, .int .i64 tvh] 38)) := ext_by
        have D4 := Lib.hid ((C4.ext hx5).grown hg6 (own_blk (own_ext_keep HO5.out hx5) (C4.ext hx5) (by decide)))
        have D5 := Lib.hid ((C5.ext hx5).grown hg6 (own_blk (own_ext_keep HO5.out hx5) (C5.ext hx5) (by decide)))
        obtain ⟨ho, he⟩ := own_app (w0 := w) (OwnBxs.ext HO5.out hx5) (EE.trans hx5) (Nat.le_refl _) (show 1 = [(⟨⟨txl, txh⟩, ⟨tyl, tyh⟩, ⟨tul, tuh⟩, tvl, tvh⟩ : Bx)].length from rfl) ho6 hg6
        have HO6 := Lib.hid ho
        have Ha2 : Hid (allB f (L.drop (k + 1)) = K) := by have := Ha.out; rw [Bool.true_and] at this; exact this
        have Hi2 : Hid ((acc ++ [⟨⟨txl, txh⟩, ⟨tyl, tyh⟩, ⟨tul, tuh⟩, tvl, tvh⟩]) ++ (L.drop (k + 1)).map f = T) := by have := Hi.out; rw [List.append_assoc]; exact this
        clear ho ho6 hg6 HO5 EE hx5 C4 C5 Hi Ha
        go_wp2_with fail
        go_roundw
        case rel => exact ⟨k + 1, _, by omega, by go_num, Hi2, Ha2, HO6, D4, D5, he⟩
        case measure => simp [intOf]; omega
    · have hkn : k = m := by omega
      subst hkn
      have hi := HI.out
      have ha := HA.out
      rw [HLn.out, List.drop_length] at hi ha
      have Hi : Hid (acc = T) := Lib.hid (by simpa using hi)
      have hKt : true = K := ha
      subst hKt
      clear hi ha HI HA HLn
      go_wp2_with fail
      (try simp only [Exit.inBlock, Exit.then]); apply bodyPost_ret; (focus (simp only [results, Tryz.results77]; go_simp; try rfl)); rfl
      exact ⟨_, rfl, by first | (rw [← Hi.out]; exact HO.out) | (rw [if_pos rfl, ← Hi.out]; exact HO.out), E⟩
def wayErr (tick ticks : Int) (L : List Bx) : Int := if (0 ≤ ticks ∧ ticks ≤ 400) ∧ 0 ≤ tick ∧ tick ≤ 1073741824 - ticks then setErr L else 2
set_option maxHeartbeats 1000000 in
theorem oWay_c (tick ticks : Int) (B : Option Addr) (m e : Nat) (L : List Bx) (w : World) (hL : Bxs w B m L) :
    Calls Tryz.prog 75 #[.int .i64 tick, .int .i64 ticks, .slice B m e] w fun e w' => e = .returned (.int .i64 (wayErr tick ticks L)) ∧ Ext w w' := by
  have HS := Lib.hid fun W (hW : Ext w W) => oCheckSet_c B m e L W (Bxs.ext hW hL)
  have HW := Lib.hid fun W => oWithin_c tick 0 (1073741824 - ticks) W
  have hwi := within_iff tick 0 (1073741824 - ticks)
  unfold wayErr
  generalize setErr L = S at *
  clear hL
  by_cases h1 : 0 ≤ ticks ∧ ticks ≤ 400
  · obtain ⟨h1, h2⟩ := h1
    cases hK : within tick 0 (1073741824 - ticks)
    · rw [hK] at HW hwi
      have hn : ¬ ((0 ≤ ticks ∧ ticks ≤ 400) ∧ 0 ≤ tick ∧ tick ≤ 1073741824 - ticks) := fun h => by have := hwi.2 h.2; cases this
      rw [if_neg hn]
      clear hwi hn hK
      go_enter Tryz.func75, Tryz.ntmps75
      go_wp2_with fail
      refine (HW.out _).mono ?_
      rintro e w1 ⟨rfl, h1⟩
      obtain ⟨hc_w1, hf_w1, hz_w1⟩ := bcell h1; (try simp only [szA] at hz_w1); (try have := wz0 w w1); (try have := wz1 w w1); (try have := wz2 w w1); (try have := wz3 w w1); (try have := wz4 w w1)
      go_wp2_with fail
      go_ret
      exact ⟨rfl, ext_by⟩
    · rw [hK] at HW hwi
      rw [if_pos ⟨⟨h1, h2⟩, hwi.1 rfl⟩]
      clear hwi hK
      go_enter Tryz.func75, Tryz.ntmps75
      go_wp2_with fail
      refine (HW.out _).mono ?_
      rintro e w1 ⟨rfl, h1⟩
      obtain ⟨hc_w1, hf_w1, hz_w1⟩ := bcell h1; (try simp only [szA] at hz_w1); (try have := wz0 w w1); (try have := wz1 w w1); (try have := wz2 w w1); (try have := wz3 w w1); (try have := wz4 w w1)
      go_wp2_with fail
      refine (HS.out _ ext_by).mono ?_
      rintro e w2 ⟨rfl, h2⟩
      obtain ⟨hc_w2, hf_w2, hz_w2⟩ := bcell h2; (try simp only [szA] at hz_w2); (try have := wz0 w w2); (try have := wz1 w w2); (try have := wz2 w w2); (try have := wz3 w w2); (try have := wz4 w w2)
      go_wp2_with fail
      go_ret
      exact ⟨rfl, ext_by⟩
  · rw [if_neg (fun h => h1 h.1)]
    clear hwi
    rcases (show ticks < 0 ∨ (0 ≤ ticks ∧ 400 < ticks) by omega) with h2 | ⟨h2, h3⟩
    all_goals clear h1
    all_goals go_enter Tryz.func75, Tryz.ntmps75
    all_goals go_wp2_with fail
    all_goals go_ret
    all_goals exact ⟨rfl, ext_by⟩
def propM (l : List Body) (home : Int) (d : Drf) : Nat → Int → List Bx → Option (List Bx)
  | 0, _, L => some L
  | k + 1, t, L => if allB (stepB l home d t) L then propM l home d k (t + 1) (L.map (stepB l home d t)) else none
def propErr (l : List Body) (home : Int) (d : Drf) (tick : Int) (L : List Bx) (ticks : Int) : Int :=
  if wdErr l home d = 0 then (if wayErr tick ticks L = 0 then (if (propM l home d ticks.toNat tick L).isSome then 0 else 14) else wayErr tick ticks L) else wdErr l home d
def propL (l : List Body) (home : Int) (d : Drf) (tick : Int) (L : List Bx) (ticks : Int) : List Bx :=
  if wdErr l home d = 0 ∧ wayErr tick ticks L = 0 then (propM l home d ticks.toNat tick L).getD [] else []
theorem boxes_ok : ∀ (L : List Bx), boxesErr L = 0 → ∀ b ∈ L, bxErr b = 0
  | [], _, b, hb => by cases hb
  | x :: r, h, b, hb => by
    rw [boxesErr] at h
    by_cases hx : bxErr x = 0
    · rw [if_pos hx] at h
      rcases List.mem_cons.1 hb with rfl | hb
      · exact hx
      · exact boxes_ok r h b hb
    · rw [if_neg hx] at h
      exact absurd h hx
theorem set_ok {L : List Bx} (h : setErr L = 0) : L.length ≤ 512 ∧ ∀ b ∈ L, bxErr b = 0 := by
  unfold setErr at h
  split at h
  · cases h
  · exact ⟨by omega, boxes_ok L h⟩
end Go.Proofs.YtfniicgoeljmdaaGreat
