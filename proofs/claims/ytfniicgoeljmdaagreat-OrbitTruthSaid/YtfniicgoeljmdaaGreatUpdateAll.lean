/- Sets that are filtered, split and refined: the program. No condition. All boxes of a set, stepped, and a set after some ticks: the program. No condition. Steps of boxes, possible successors, sets after some ticks. Plain laws. No condition. Sets that are updated, handed out tick by tick: the program. No condition. Sets that are filtered, refined, updated: what agrees stays, nothing comes in. Plain laws. No condition. Sets that are packed: plain law, and the reference. No condition. A set after some ticks, or which error: the program. No condition. A set after ticks with sights, or which error: the program. No condition. -/
import Derived.Test.YtfniicgoeljmdaaGreatFilter
import Derived.Test.YtfniicgoeljmdaaGreatSplitAll
import Derived.Test.YtfniicgoeljmdaaGreatStepM
import Derived.Test.YtfniicgoeljmdaaGreatCellsWalk
import Derived.Test.YtfniicgoeljmdaaGreatSlices
import Derived.Test.YtfniicgoeljmdaaGreatBoxSet
import Derived.Test.YtfniicgoeljmdaaGreatStep
import Derived.Test.YtfniicgoeljmdaaGreatAwakeFour
import Derived.Test.YtfniicgoeljmdaaGreatTold
import Derived.Test.YtfniicgoeljmdaaGreatOutLaw
import Derived.Test.YtfniicgoeljmdaaGreatBig
import Derived.Test.YtfniicgoeljmdaaGreatOwnBoxes
namespace Go.Proofs.YtfniicgoeljmdaaGreat
open Go.RowKit

theorem own_app {base : Nat} {w0 w w' : World} {v v' : Value} {l r : List Bx} {n : Nat} (h : OwnBxs base w v l) (e0 : Ext w0 w) (hb : w0.heap.size ≤ base) (hn : n = r.length) (ho : w'.ownsRow base 38 8 v' (l.length + n) (l.flatMap bxC ++ r.flatMap bxC)) (hg : w.grownBy w' v.ownBlock) : OwnBxs base w' v' (l ++ r) ∧ Ext w0 w' :=
  ⟨OwnBxs.ofApp hn ho, own_ext e0 h hg hb⟩
end Go.Proofs.YtfniicgoeljmdaaGreat

namespace Go.Proofs.YtfniicgoeljmdaaGreat
open Go.RowKit

def allB (f : Bx → Bx) (L : List Bx) : Bool := L.all fun b => decide (bxErr (f b) = 0)
theorem all_ok {f : Bx → Bx} {L : List Bx} (h : allB f L = true) : ∀ b ∈ L.map f, bxErr b = 0 := by
  intro b hb
  obtain ⟨c, hc, rfl⟩ := List.mem_map.1 hb
  have := List.all_eq_true.1 h c hc
  simpa using this
set_option maxRecDepth 20000 in
set_option maxHeartbeats 4000000 in
theorem oAll_c (A : Option Addr) (n c : Nat) (home : Int) (l : List Body) (d : Drf) (tick : Int) (B : Option Addr) (m e : Nat) (L : List Bx) (w : World) (hl : Bodies w A n l) (h1 : wdErr l home d = 0) (h2 : 0 ≤ tick ∧ tick ≤ 1073741824) (hL : Bxs w B m L) (hm : m ≤ 2000) (hv : ∀ b ∈ L, bxErr b = 0) :
    Calls Tryz.prog 77 #[.agg #[.slice A n c, .int .i64 home], .agg #[.int .i64 d.light.lo, .int .i64 d.light.hi, .int .i64 d.heat.lo, .int .i64 d.heat.hi, .int .i64 d.gas], .int .i64 tick, .slice B m e] w fun e w' =>
      ∃ v, e = .returned (.tuple #[v, .bool (allB (stepB l home d tick) L)]) ∧ OwnBxs w.heap.size w' v (if allB (stepB l home d tick) L then L.map (stepB l home d tick) else []) ∧ Ext w w' := by
  have HS := Lib.hid fun (b : Bx) (hb : bxErr b = 0) W (hW : Ext w W) => oStep0_c A n c home l d tick b W (Bodies.ext hW hl) h1 h2 hb
  have HLn := Lib.hid hL.len
  have HL := Lib.hid fun W (hW : Ext w W) => Bxs.ext hW hL
  have HV := Lib.hid hv
  obtain ⟨ic, hic, hc0, hc1, hc2⟩ := info_parts info_box
  generalize stepB l home d tick = f at *
  obtain ⟨K, hK⟩ : ∃ K, allB f L = K := ⟨_, rfl⟩
  obtain ⟨T, hT⟩ : ∃ T, L.map f = T := ⟨_, rfl⟩
  have hTl : T.length ≤ 2000 := by rw [← hT, List.length_map, ← hL.len]; exact hm
  rw [hK, hT]
  have HK := Lib.hid hK
  have HT := Lib.hid hT
  obtain ⟨⟨ll, lh⟩, ⟨hl', hh⟩, g⟩ := d
  dsimp only at HS ⊢
  clear hl h1 h2 hL hv hK hT
  go_enter Tryz.func77, Tryz.ntmps77
  go_wp2_with fail
  go_loopw [10, 17] (fun o i wr => ∃ (k : Nat) (acc : List Bx), k ≤ m ∧ i = .int .i64 k ∧ Hid (acc ++ (L.drop k).map f = T) ∧ Hid (allB f (L.drop k) = K) ∧ Hid (OwnBxs w.heap.size wr o acc) ∧ Hid (Blk wr w.heap.size 24 #[.slice A n c, .int .i64 home]) ∧ Hid (Blk wr (w.heap.size + 1) 28 #[.int .i64 ll, .int .i64 lh, .int .i64 hl', .int .i64 hh, .int .i64 g]) ∧ Ext w wr) (fun _ i _ => m - (intOf i).toNat)
  case atStart => exact ⟨0, [], Nat.zero_le _, rfl, Lib.hid HT.out, Lib.hid HK.out, OwnBxs.nil _ _, Lib.hid ((Blk.newAt rfl).alloc _), Lib.hid (Blk.newAt (by simp)), ext_by⟩
  case round =>
    obtain ⟨k, acc, hk, rfl, HI, HA, HO, B4, B5, E⟩ := hrel
    have hz := E.size
    by_cases hlt : k < m
    · obtain ⟨b, off, x, hB, HD, hxm, hx⟩ := (HL.out wr E).one hlt
      subst hB
      have hi := HI.out
      have ha := HA.out
      have hlen := congrArg List.length hi
      rw [List.length_append] at hlen
      rw [HD.out, List.map_cons] at hi
      rw [HD.out, allB, List.all_cons, ← allB] at ha
      obtain ⟨hx0, hx1, hx2, hx3, hx4, hx5, hx6, hx7⟩ := hx
      have hbl : b < wr.heap.size := World.block_lt_of_cell? wr _ hx0
      have HX := Lib.hid fun W (hW : Ext w W) => HS.out x (HV.out x hxm) W hW
      clear HI HA HD hxm
      generalize f x = y at *
      obtain ⟨Q, hQ⟩ : ∃ Q, decide (bxErr y = 0) = Q := ⟨_, rfl⟩
      rw [hQ] at ha HX
      have Hi := Lib.hid hi
      have Ha := Lib.hid ha
      clear hi ha hQ
      obtain ⟨⟨xl, xh⟩, ⟨yl, yh⟩, ⟨ul, uh⟩, vl, vh⟩ := x
      obtain ⟨⟨txl, txh⟩, ⟨tyl, tyh⟩, ⟨tul, tuh⟩, tvl, tvh⟩ := y
      dsimp only [bxV] at hx0 hx1 hx2 hx3 hx4 hx5 hx6 hx7 HX
      have c4 := B4.out.cell
      have c5 := B5.out.cell
      have l4 := B4.out.lt
      have l5 := B5.out.lt
      have l6 : w.heap.size < wr.heap.size + 1 := by omega
      have l7 : w.heap.size + 1 < wr.heap.size + 1 := by omega
      go_wp2_with fail
      refine (HX.out _ ext_by).mono ?_
      rintro e w5 ⟨rfl, h5⟩
      have E5 : Ext wr w5 := (Ext.alloc0 _ _).trans h5
      have HO5 := Lib.hid (OwnBxs.ext HO.out E5)
      have C4 := B4.out.ext E5
      have C5 := B5.out.ext E5
      have hz5 := E5.size
      have EE := E.trans E5
      clear h5 HO hx0 hx1 hx2 hx3 hx4 hx5 hx6 hx7 hbl E5 c4 c5 l4 l5 l6 l7 HX B4 B5
      cases Q
      · have HKf : Hid (false = K) := by have := Ha.out; rw [Bool.false_and] at this; exact this
        have hKf := HKf.out
        subst hKf
        clear Hi Ha HKf
        go_wp2_with fail
        (try simp only [Exit.inBlock, Exit.then]); apply bodyPost_ret; (focus (simp only [results, Tryz.results77]; go_simp; try rfl)); rfl
        exact ⟨_, rfl, by first | exact OwnBxs.nil _ _ | (simp only [Bool.false_eq_true, if_false]; exact OwnBxs.nil _ _), ext_by⟩
      · go_wp2_with (at_builtin; go_loud (refine wpList_append_sl rfl (.tmp 31) (.tmp 33) 39 rfl w.heap.size 38 ic _ 8 64 Tryz.underlying39 hic hc0 hc1 hc2 rfl (by decide) _ acc.length (acc.flatMap bxC) rfl (own_ext_keep HO5.out ext_by) (some ⟨_, 0, none⟩) 1 1 [.int .i64 txl, .int .i64 txh, .int .i64 tyl, .int .i64 tyh, .int .i64 tul, .int .i64 tuh, .int .i64 tvl, .int .i64 tvh] rfl rfl (.inr ⟨_, rfl, new_cells (by simp)⟩) (by simp [Value.oneCell']) (by unfold maxLen; omega) (by omega) (by simp only [World.size_alloc]; omega) ?_))
        intro v' w6 ho6 hg6 _
        have hx5 : Ext w5 ((w5.alloc (.cells #[.int .i64 txl, .int .i64 txh, .int .i64 tyl, .int .i64 tyh, .int .i64 tul, .int .i64 tuh, .int .i64 tvl, .int .i64 tvh] 38)).alloc (.cells #[.int .i64 txl, .int .i64 txh, .int .i64 tyl, .int .i64 tyh, .int .i64 tul, .int .i64 tuh, .int .i64 tvl, .int .i64 tvh] 38)) := ext_by
        have D4 := Lib.hid ((C4.ext hx5).grown hg6 (own_blk (own_ext_keep HO5.out hx5) (C4.ext hx5) (by decide)))
        have D5 := Lib.hid ((C5.ext hx5).grown hg6 (own_blk (own_ext_keep HO5.out hx5) (C5.ext hx5) (by decide)))
        obtain ⟨ho, he⟩ := own_app (w0 := w) (OwnBxs.ext HO5.out hx5) (EE.trans hx5) (Nat.le_refl _) (show 1 = [(⟨⟨txl, txh⟩, ⟨tyl, tyh⟩, ⟨tul, tuh⟩, tvl, tvh⟩ : Bx)].length from rfl) ho6 hg6
        have HO6 := Lib.hid ho
        have Ha2 : Hid (allB f (L.drop (k + 1)) = K) := by have := Ha.out; rw [Bool.true_and] at this; exact this
        have Hi2 : Hid ((acc ++ [⟨⟨txl, txh⟩, ⟨tyl, tyh⟩, ⟨tul, tuh⟩, tvl, tvh⟩]) ++ (L.drop (k + 1)).map f = T) := by have := Hi.out; rw [List.append_assoc]; exact this
        clear ho ho6 hg6 HO5 EE hx5 C4 C5 Hi Ha
        go_wp2_with fail
        go_roundw
        case rel => exact ⟨k + 1, _, by omega, by go_num, Hi2, Ha2, HO6, D4, D5, he⟩
        case measure => simp [intOf]; omega
    · have hkn : k = m := by omega
      subst hkn
      have hi := HI.out
      have ha := HA.out
      rw [HLn.out, List.drop_length] at hi ha
      have Hi : Hid (acc = T) := Lib.hid (by simpa using hi)
      have hKt : true = K := ha
      subst hKt
      clear hi ha HI HA HLn
      go_wp2_with fail
      (try simp only [Exit.inBlock, Exit.then]); apply bodyPost_ret; (focus (simp only [results, Tryz.results77]; go_simp; try rfl)); rfl
      exact ⟨_, rfl, by first | (rw [← Hi.out]; exact HO.out) | (rw [if_pos rfl, ← Hi.out]; exact HO.out), E⟩
def wayErr (tick ticks : Int) (L : List Bx) : Int := if (0 ≤ ticks ∧ ticks ≤ 400) ∧ 0 ≤ tick ∧ tick ≤ 1073741824 - ticks then setErr L else 2
set_option maxHeartbeats 1000000 in
theorem oWay_c (tick ticks : Int) (B : Option Addr) (m e : Nat) (L : List Bx) (w : World) (hL : Bxs w B m L) :
    Calls Tryz.prog 75 #[.int .i64 tick, .int .i64 ticks, .slice B m e] w fun e w' => e = .returned (.int .i64 (wayErr tick ticks L)) ∧ Ext w w' := by
  have HS := Lib.hid fun W (hW : Ext w W) => oCheckSet_c B m e L W (Bxs.ext hW hL)
  have HW := Lib.hid fun W => oWithin_c tick 0 (1073741824 - ticks) W
  have hwi := within_iff tick 0 (1073741824 - ticks)
  unfold wayErr
  generalize setErr L = S at *
  clear hL
  by_cases h1 : 0 ≤ ticks ∧ ticks ≤ 400
  · obtain ⟨h1, h2⟩ := h1
    cases hK : within tick 0 (1073741824 - ticks)
    · rw [hK] at HW hwi
      have hn : ¬ ((0 ≤ ticks ∧ ticks ≤ 400) ∧ 0 ≤ tick ∧ tick ≤ 1073741824 - ticks) := fun h => by have := hwi.2 h.2; cases this
      rw [if_neg hn]
      clear hwi hn hK
      go_enter Tryz.func75, Tryz.ntmps75
      go_wp2_with fail
      refine (HW.out _).mono ?_
      rintro e w1 ⟨rfl, h1⟩
      obtain ⟨hc_w1, hf_w1, hz_w1⟩ := bcell h1; (try simp only [szA] at hz_w1); (try have := wz0 w w1); (try have := wz1 w w1); (try have := wz2 w w1); (try have := wz3 w w1); (try have := wz4 w w1)
      go_wp2_with fail
      go_ret
      exact ⟨rfl, ext_by⟩
    · rw [hK] at HW hwi
      rw [if_pos ⟨⟨h1, h2⟩, hwi.1 rfl⟩]
      clear hwi hK
      go_enter Tryz.func75, Tryz.ntmps75
      go_wp2_with fail
      refine (HW.out _).mono ?_
      rintro e w1 ⟨rfl, h1⟩
      obtain ⟨hc_w1, hf_w1, hz_w1⟩ := bcell h1; (try simp only [szA] at hz_w1); (try have := wz0 w w1); (try have := wz1 w w1); (try have := wz2 w w1); (try have := wz3 w w1); (try have := wz4 w w1)
      go_wp2_with fail
      refine (HS.out _ ext_by).mono ?_
      rintro e w2 ⟨rfl, h2⟩
      obtain ⟨hc_w2, hf_w2, hz_w2⟩ := bcell h2; (try simp only [szA] at hz_w2); (try have := wz0 w w2); (try have := wz1 w w2); (try have := wz2 w w2); (try have := wz3 w w2); (try have := wz4 w w2)
      go_wp2_with fail
      go_ret
      exact ⟨rfl, ext_by⟩
  · rw [if_neg (fun h => h1 h.1)]
    clear hwi
    rcases (show ticks < 0 ∨ (0 ≤ ticks ∧ 400 < ticks) by omega) with h2 | ⟨h2, h3⟩
    all_goals clear h1
    all_goals go_enter Tryz.func75, Tryz.ntmps75
    all_goals go_wp2_with fail
    all_goals go_ret
    all_goals exact ⟨rfl, ext_by⟩
def propM (l : List Body) (home : Int) (d : Drf) : Nat → Int → List Bx → Option (List Bx)
  | 0, _, L => some L
  | k + 1, t, L => if allB (stepB l home d t) L then propM l home d k (t + 1) (L.map (stepB l home d t)) else none
def propErr (l : List Body) (home : Int) (d : Drf) (tick : Int) (L : List Bx) (ticks : Int) : Int :=
  if wdErr l home d = 0 then (if wayErr tick ticks L = 0 then (if (propM l home d ticks.toNat tick L).isSome then 0 else 14) else wayErr tick ticks L) else wdErr l home d
def propL (l : List Body) (home : Int) (d : Drf) (tick : Int) (L : List Bx) (ticks : Int) : List Bx :=
  if wdErr l home d = 0 ∧ wayErr tick ticks L = 0 then (propM l home d ticks.toNat tick L).getD [] else []
theorem boxes_ok : ∀ (L : List Bx), boxesErr L = 0 → ∀ b ∈ L, bxErr b = 0
  | [], _, b, hb => by cases hb
  | x :: r, h, b, hb => by
    rw [boxesErr] at h
    by_cases hx : bxErr x = 0
    · rw [if_pos hx] at h
      rcases List.mem_cons.1 hb with rfl | hb
      · exact hx
      · exact boxes_ok r h b hb
    · rw [if_neg hx] at h
      exact absurd h hx
theorem set_ok {L : List Bx} (h : setErr L = 0) : L.length ≤ 512 ∧ ∀ b ∈ L, bxErr b = 0 := by
  unfold setErr at h
  split at h
  · cases h
  · exact ⟨by omega, boxes_ok L h⟩
end Go.Proofs.YtfniicgoeljmdaaGreat

namespace Go.Proofs.YtfniicgoeljmdaaGreat
open Go.RowKit

structure Moves (l : List Body) (home : Int) (d : Drf) (tick : Int) : Prop where
  wd : wdErr l home d = 0
  now : 0 ≤ tick ∧ tick ≤ 1073741823
  ask : ∀ a, SmA 33554432 a → fAskErr l home d tick a = 0
  sub : ∀ a a', SmA 33554432 a → SubA a' a → SubA (overA l home d tick a') (overA l home d tick a)
def ptA (s : St) : Ar := ⟨⟨s.x, s.x⟩, ⟨s.y, s.y⟩⟩
def ptB (s : St) : Bx := ⟨⟨s.x, s.x⟩, ⟨s.y, s.y⟩, ⟨s.u, s.u⟩, ⟨s.v, s.v⟩⟩
theorem pt_valid {s : St} (h : stErr s = 0) : bxErr (ptB s) = 0 ∧ SmA 33554432 (ptA s) := by
  rw [stErr_ok] at h
  rw [bxErr_iff]
  unfold BxOk SmA Sm ptB ptA
  dsimp only
  omega
section
variable {l : List Body} {home : Int} {d : Drf} {tick : Int}
theorem Moves.over (M : Moves l home d tick) {a : Ar} (ha : SmA 33554432 a) : overM l home d tick a = ⟨overA l home d tick a, 0⟩ := by
  unfold overM; rw [if_pos (M.ask a ha)]
theorem Moves.follows (M : Moves l home d tick) {s n : St} (hs : stErr s = 0) : possibleB l home d tick s n = true ↔ stErr n = 0 ∧
    ((overA l home d tick (ptA s)).x.lo ≤ n.u - s.u ∧ n.u - s.u ≤ (overA l home d tick (ptA s)).x.hi) ∧ ((overA l home d tick (ptA s)).y.lo ≤ n.v - s.v ∧ n.v - s.v ≤ (overA l home d tick (ptA s)).y.hi) ∧ n.x = s.x + n.u ∧ n.y = s.y + n.v := by
  have ho := M.over (pt_valid hs).2
  unfold possibleB followsB
  unfold ptA at ho
  rw [ho]
  simp only [Bool.and_eq_true, decide_eq_true_eq, within_iff, M.wd, hs, true_and, and_assoc]
  exact ⟨fun ⟨_, _, h⟩ => h, fun h => ⟨M.now.1, M.now.2, h⟩⟩
theorem Moves.step_holds (M : Moves l home d tick) {b : Bx} {s n : St} (hb : bxErr b = 0) (h : holdsB b s = true)
    (h1 : (overA l home d tick (ptA s)).x.lo ≤ n.u - s.u ∧ n.u - s.u ≤ (overA l home d tick (ptA s)).x.hi) (h2 : (overA l home d tick (ptA s)).y.lo ≤ n.v - s.v ∧ n.v - s.v ≤ (overA l home d tick (ptA s)).y.hi) (h3 : n.x = s.x + n.u) (h4 : n.y = s.y + n.v) :
    holdsB (stepB l home d tick b) n = true := by
  rw [bxErr_iff] at hb
  rw [holdsB_iff] at h
  unfold BxOk Sm at hb
  have q := M.sub ⟨b.x, b.y⟩ (ptA s) (by unfold SmA Sm; dsimp only; omega) (by unfold SubA Sub ptA; dsimp only; omega)
  rw [holdsB_iff]
  unfold stepB sumS
  dsimp only
  generalize overA l home d tick ⟨b.x, b.y⟩ = B at *
  generalize overA l home d tick (ptA s) = A at *
  unfold SubA Sub at q
  omega
end
theorem moves_of {l : List Body} {home : Int} {d : Drf} {tick : Int} (h : wdErr l home d = 0) (ht : 0 ≤ tick ∧ tick ≤ 1073741823) : Moves l home d tick := by
  obtain ⟨hw, hd⟩ := wdErr_ok.1 h
  obtain ⟨b1, _, b3⟩ := wld_bodies hw
  refine ⟨h, ht, fun a ha => ?_, fun a a' ha hs => overA_sub b1 (fun b hb => by have := b3 b hb; omega) (at_place l home tick) hd ha hs⟩
  have e1 : areaErr a = 0 := by
    unfold areaErr
    rw [if_pos (ha.1.err2 ha.2 (by omega) (by omega)), if_pos]
    unfold SmA Sm at ha
    simp only [far4, within, Bool.and_eq_true, decide_eq_true_eq]
    omega
  unfold fAskErr
  rw [if_pos hw, if_pos hd, if_pos ((within_iff _ _ _).2 (by omega)), if_pos e1, if_pos]
  unfold SmA Sm at ha
  simp only [inPlace, Bool.and_eq_true, decide_eq_true_eq]
  omega
end Go.Proofs.YtfniicgoeljmdaaGreat

namespace Go.Proofs.YtfniicgoeljmdaaGreat
open Go.RowKit Go.Shelf
attribute [local go_sem] Oper.semAt_some

def updM (s : Sky) (d : Drf) (sg : List Sight) : Nat → Int → List Bx → Option (List Bx)
  | 0, _, L => some L
  | k + 1, t, L => if allB (stepB s.world.bodies s.world.home d t) L then updM s d sg k (t + 1) (filtL s (t + 1) sg (L.map (stepB s.world.bodies s.world.home d t))) else none
def KpB (nb b : Nat) (W W' : World) : Prop := Below nb W W' ∧ ∀ g cs t k, g ≠ b → W.heap[g]? = some (.cells cs t k) → W'.heap[g]? = some (.cells cs t k)
theorem KpB.trans {nb b : Nat} {A B C : World} (h : KpB nb b A B) (k : KpB nb b B C) : KpB nb b A C := ⟨h.1.trans k.1, fun g cs t q hg hb => k.2 g cs t q hg (h.2 g cs t q hg hb)⟩
theorem KpB.put {nb b : Nat} {w : World} (hn : nb ≤ w.heap.size) (W : World) (l : Nat) (o o' : Obj) (hl : w.heap.size ≤ l) (h : W.heap[l]? = some o) (ho : o.isCells = false) (hw : o.isWalk = false) : KpB nb b W (W.putObj l o') := by
  refine ⟨belowK_b hn W l o o' hl h ho hw, fun g cs t q _ hb => ?_⟩
  have hne : g ≠ l := fun e => by
    rw [e, h] at hb
    injection hb with hb
    rw [hb] at ho
    cases ho
  exact (World.putObj_heap_other hne).trans hb
theorem KpB.blk {nb b : Nat} {W W' : World} (h : KpB nb b W W') {g : Nat} {t : TypeId} {cs : Array Value} (hg : g ≠ b) (hb : Blk W g t cs) : Blk W' g t cs := h.2 g cs t _ hg hb
theorem KpB.own {nb b base : Nat} {W W' : World} (h : KpB nb b W W') {v : Value} {L : List Bx} (hb : b < base) (ho : OwnBxs base W v L) : OwnBxs base W' v L := by
  refine ⟨ho.1, ?_⟩
  rcases ho.2 with hn | ⟨g, cap, cur, rfl, hbg, hg, rest⟩
  · exact .inl hn
  · exact .inr ⟨g, cap, cur, rfl, hbg, h.2 _ _ _ _ (by omega) hg, rest⟩
theorem own_from {B base : Nat} {W W' : World} {row : Option Nat} {v : Value} {L : List Bx} (ho : OwnBxs base W v L) (hgr : W.grownBy W' row) (hr : ∀ r, row = some r → B ≤ r ∧ ∃ o : Obj, W.heap[r]? = some o ∧ o.isCells = false) : OwnBxs base W' v L := by
  refine ⟨ho.1, ?_⟩
  rcases ho.2 with hn | ⟨g, cap, cur, rfl, hbg, hg, rest⟩
  · exact .inl hn
  · refine .inr ⟨g, cap, cur, rfl, hbg, (hgr.block g (Array.getElem?_eq_some_iff.1 hg).1 (fun e => ?_)).trans hg, rest⟩
    obtain ⟨_, o, ho, hc⟩ := hr g e.symm
    rw [hg] at ho
    injection ho with ho
    rw [← ho] at hc
    cases hc
structure UpV (T : Option (List Bx)) where
  A : Option Addr
  n : Nat
  c : Nat
  ok : Bool
  h : Hid (ok = false → T = none)
def updE {T : Option (List Bx)} (x : UpV T) : Array Value := #[.slice x.A x.n x.c, .bool x.ok]
def updS (bs : Nat) (T : Option (List Bx)) (xs : List (UpV T)) (W : World) : Prop :=
  ∃ pre x, xs = pre ++ [x] ∧ ((x.ok = true ∧ ∃ L, T = some L ∧ OwnBxs bs W (.slice x.A x.n x.c) L) ∨ x.ok = false)
theorem updS_from (B bs : Nat) (T : Option (List Bx)) : OwnFrom B (updS bs T) := by
  rintro xs W W' row ⟨pre, x, rfl, h⟩ hgr hr
  refine ⟨pre, x, rfl, ?_⟩
  rcases h with ⟨h1, L, h2, h3⟩ | h
  · exact .inl ⟨h1, L, h2, own_from h3 hgr hr⟩
  · exact .inr h
theorem filt_ok {s : Sky} {t : Int} {sg : List Sight} {L : List Bx} (h : ∀ b ∈ L, bxErr b = 0) : ∀ b ∈ filtL s t sg L, bxErr b = 0 := fun b hb => h b (List.mem_filter.1 hb).1
theorem filt_len (s : Sky) (t : Int) (sg : List Sight) (L : List Bx) : (filtL s t sg L).length ≤ L.length := List.length_filter_le _ _
set_option maxHeartbeats 2000000 in
theorem oUpdates_c (A1 : Option Addr) (n1 c1 : Nat) (home : Int) (A2 : Option Addr) (n2 c2 : Nat) (A3 : Option Addr) (n3 c3 : Nat) (ll lh hl hh g : Int) (tick : Int) (A : Option Addr) (n c : Nat) (ticks : Int) (B : Option Addr) (m e : Nat) (w : World) :
    Calls Tryz.prog 111 #[.agg #[.slice A1 n1 c1, .int .i64 home, .slice A2 n2 c2, .slice A3 n3 c3], .agg #[.int .i64 ll, .int .i64 lh, .int .i64 hl, .int .i64 hh, .int .i64 g], .int .i64 tick, .slice A n c, .int .i64 ticks, .slice B m e] w fun e' w' => ∃ b, b = w.heap.size ∧ e' = .returned (.func (.func 145) #[] #[.pointer (some ⟨b, 0, none⟩), .pointer (some ⟨b + 1 + 1, 0, none⟩), .pointer (some ⟨b + 1 + 1 + 1, 0, none⟩), .pointer (some ⟨b + 1 + 1 + 1 + 1 + 1, 0, none⟩), .pointer (some ⟨b + 1 + 1 + 1 + 1, 0, none⟩), .pointer (some ⟨b + 1, 0, none⟩)]) ∧ Ext w w' ∧
      Blk w' b 53 #[.slice A1 n1 c1, .int .i64 home, .slice A2 n2 c2, .slice A3 n3 c3] ∧ Blk w' (b + 1) 28 #[.int .i64 ll, .int .i64 lh, .int .i64 hl, .int .i64 hh, .int .i64 g] ∧ Blk w' (b + 1 + 1) 2 #[.int .i64 tick] ∧ Blk w' (b + 1 + 1 + 1) 39 #[.slice A n c] ∧ Blk w' (b + 1 + 1 + 1 + 1) 3 #[.int .i64 ticks] ∧ Blk w' (b + 1 + 1 + 1 + 1 + 1) 70 #[.slice B m e] := by
  go_enter Tryz.func111, Tryz.ntmps111
  go_wp2_with fail
  go_ret
  refine ⟨_, rfl, rfl, by exact ext_by, ?_, ?_, ?_, ?_, ?_, ?_⟩
  · exact ((((((Blk.newAt rfl).alloc _).alloc _).alloc _).alloc _).alloc _)
  · exact (((((Blk.newAt (by simp)).alloc _).alloc _).alloc _).alloc _)
  · exact ((((Blk.newAt (by simp)).alloc _).alloc _).alloc _)
  · exact (((Blk.newAt (by simp)).alloc _).alloc _)
  · exact ((Blk.newAt (by simp)).alloc _)
  · exact Blk.newAt (by simp)
set_option maxRecDepth 100000 in
set_option maxHeartbeats 4000000 in
theorem oUpd_iter (g1 g2 g3 g4 g5 g6 b18 : Nat) (A1 : Option Addr) (n1 c1 : Nat) (home : Int) (A2 : Option Addr) (n2 c2 : Nat) (A3 : Option Addr) (n3 c3 : Nat) (s : Sky) (d : Drf) (tick : Int) (A : Option Addr) (n c : Nat) (L : List Bx) (B : Option Addr) (m e : Nat) (sg : List Sight) (N : Nat) (w0 w : World) (hE : Ext w0 w) (hs : IsSky w0 A1 n1 home A2 n2 A3 n3 s) (hl : Bxs w0 A n L) (hr : Sights w0 B m sg)
    (h1 : wdErr s.world.bodies s.world.home d = 0) (_ : N ≤ 400) (ht : 0 ≤ tick ∧ tick ≤ 1073741824 - (N : Int)) (hL : L.length ≤ 512) (hv : ∀ b ∈ L, bxErr b = 0)
    (hB1 : Blk w g1 53 #[.slice A1 n1 c1, .int .i64 home, .slice A2 n2 c2, .slice A3 n3 c3]) (hB2 : Blk w g2 2 #[.int .i64 tick]) (hB3 : Blk w g3 39 #[.slice A n c]) (hB4 : Blk w g4 70 #[.slice B m e]) (hB5 : Blk w g5 3 #[.int .i64 (N : Int)]) (hB6 : Blk w g6 28 #[.int .i64 d.light.lo, .int .i64 d.light.hi, .int .i64 d.heat.lo, .int .i64 d.heat.hi, .int .i64 d.gas])
    (hb : b18 < w.heap.size) (T : Option (List Bx)) (hT : updM s d sg N tick (filtL s tick sg L) = T) (hne : g1 ≠ b18 ∧ g2 ≠ b18 ∧ g3 ≠ b18 ∧ g4 ≠ b18 ∧ g5 ≠ b18 ∧ g6 ≠ b18) :
    IterT Tryz.prog 145 #[.pointer (some ⟨g1, 0, none⟩), .pointer (some ⟨g2, 0, none⟩), .pointer (some ⟨g3, 0, none⟩), .pointer (some ⟨g4, 0, none⟩), .pointer (some ⟨g5, 0, none⟩), .pointer (some ⟨g6, 0, none⟩)] updE (KpB w0.heap.size b18)
      (updS w.heap.size T) (fun _ _ => True) (N + 2) w := by
  intro q lr J Jx W hW hJ hJx hY h0
  obtain ⟨bs, hbs⟩ : ∃ b, b = w.heap.size := ⟨_, rfl⟩
  have hz := hW.size
  have hhome := hs.home
  have HF := Lib.hid fun (t : Int) A' (k c' : Nat) (L' : List Bx) V (hV : Ext w0 V) (h : Bxs V A' k L') (hk : k ≤ 2000) => oFilterL_c A1 n1 c1 home A2 n2 c2 A3 n3 c3 s t A' k c' L' B m e sg V (hs.ext hV) h (Sights.ext hV hr) hk
  have HA := Lib.hid fun (t : Int) (h2 : 0 ≤ t ∧ t ≤ 1073741824) A' (k c' : Nat) (L' : List Bx) V (hV : Ext w0 V) (h : Bxs V A' k L') (hk : k ≤ 2000) (hv : ∀ b ∈ L', bxErr b = 0) => oAll_c A1 n1 c1 s.world.home s.world.bodies d t A' k c' L' V (Bodies.ext hV hs.bodies) h1 h2 h hk hv
  rw [← hhome] at HA
  have HH := Lib.hid hhome
  have HT := Lib.hid hT
  rw [← hbs] at hb ⊢
  have hz2 : bs ≤ W.heap.size := by omega
  obtain ⟨n1', n2', n3', n4', n5', n6'⟩ := hne
  have HB1 := Lib.hid (hB1.ext hW)
  have HB2 := Lib.hid (hB2.ext hW)
  have HB3 := Lib.hid (hB3.ext hW)
  have HB4 := Lib.hid (hB4.ext hW)
  have HB5 := Lib.hid (hB5.ext hW)
  have HB6 := Lib.hid (hB6.ext hW)
  have HE := Lib.hid (hE.trans hW)
  have hn : n ≤ 2000 := by have := hl.len; omega
  have HL := Lib.hid fun V (hV : Ext w0 V) => Bxs.ext hV hl
  have hCl : (filtL s tick sg L).length ≤ 512 := Nat.le_trans (filt_len s tick sg L) hL
  have hCv := filt_ok (s := s) (t := tick) (sg := sg) hv
  have HCV := Lib.hid hCv
  have hY' : ∀ (pre : List (UpV T)) (x : UpV T) W1, J pre W1 → pre.length < N + 2 → YieldAt Fence.wide (q - 1) Tryz.prog lr #[.slice x.A x.n x.c, .bool x.ok] W1 fun e W' =>
      (e = .returned (.bool true) ∧ J (pre ++ [x]) W' ∧ KpB w0.heap.size b18 W1 W') ∨ (e = .returned (.bool false) ∧ Jx (pre ++ [x]) W') := fun pre x W1 h1 h2 => hY pre x W1 h1 h2
  have HY := Lib.hid hY'
  have HJ := Lib.hid hJ
  have H0 := Lib.hid h0
  obtain ⟨⟨ll, lh⟩, ⟨hl', hh⟩, g⟩ := d
  dsimp only at HA HB6
  clear hY hY' hs hl hr hB1 hB2 hB3 hB4 hB5 hB6 hW hE h1 hT hhome hbs hz hv hCv hJ h0 hL
  refine callsIn_of_wp Tryz.func145 rfl trivial ?_
  simp only [Tryz.ntmps145, List.size_toArray, List.length_cons, List.length_nil, Nat.reduceAdd, Nat.reduceSub, Array.replicate_succ, Array.replicate_zero, List.push_toArray, List.append_toArray, List.nil_append, List.cons_append]
  have c1' := HB1.out.cell
  have c2' := HB2.out.cell
  have c3' := HB3.out.cell
  have c4' := HB4.out.cell
  have l1' := HB1.out.lt
  have l2' := HB2.out.lt
  have l3' := HB3.out.lt
  have l4' := HB4.out.lt
  gi_wp2
  refine ⟨trivial, fun h => (by cases h), (callsIn_wide.2 (HF.out tick A n c L _ HE.out (HL.out _ HE.out) hn)).mono ?_⟩
  rintro e w1 ⟨v1, rfl, ho1, h1⟩
  have HJ1 := Lib.hid (HJ.out [] W w1 none H0.out (ext_grown h1) (by intro r hr; cases hr))
  have HO1 := Lib.hid (ho1.mono (base' := bs) hz2)
  replace HB1 := Lib.hid (HB1.out.ext h1)
  replace HB2 := Lib.hid (HB2.out.ext h1)
  replace HB4 := Lib.hid (HB4.out.ext h1)
  replace HB5 := Lib.hid (HB5.out.ext h1)
  replace HB6 := Lib.hid (HB6.out.ext h1)
  replace HE := Lib.hid (HE.out.trans h1)
  have hz1 : bs ≤ w1.heap.size := Nat.le_trans hz2 h1.size
  clear c1' c2' c3' c4' l1' l2' l3' l4' h1 HB3 ho1 HL hn H0
  generalize filtL s tick sg L = C0 at *
  gi_wp2
  gi_loopw [8, 9] (fun v i wr => ∃ (k : Nat) (C : List Bx) (pre : List (UpV T)), k ≤ N ∧ i = .int .i64 k ∧ Hid (pre.length = k) ∧ C.length ≤ 512 ∧ Hid (∀ b ∈ C, bxErr b = 0) ∧ Hid (updM s ⟨⟨ll, lh⟩, ⟨hl', hh⟩, g⟩ sg (N - k) (tick + k) C = T) ∧ Hid (OwnBxs bs wr v C) ∧ Hid (J pre wr) ∧ Hid (Ext w0 wr) ∧ bs ≤ wr.heap.size ∧ Hid (Blk wr g1 53 #[.slice A1 n1 c1, .int .i64 home, .slice A2 n2 c2, .slice A3 n3 c3]) ∧ Hid (Blk wr g2 2 #[.int .i64 tick]) ∧ Hid (Blk wr g4 70 #[.slice B m e]) ∧ Hid (Blk wr g5 3 #[.int .i64 (N : Int)]) ∧ Hid (Blk wr g6 28 #[.int .i64 ll, .int .i64 lh, .int .i64 hl', .int .i64 hh, .int .i64 g])) (fun _ i _ => N - (intOf i).toNat)
  case atStart => exact ⟨0, C0, [], Nat.zero_le _, rfl, rfl, hCl, HCV.out, Lib.hid (by simpa using HT.out), HO1.out, HJ1.out, HE.out, hz1, HB1.out, HB2.out, HB4.out, HB5.out, HB6.out⟩
  case round =>
    clear HJ1 HO1 HB1 HB2 HB4 HB5 HB6 HE hz1 hCl HCV HT
    obtain ⟨k, C, pre, hk, rfl, HP, hC, HCV, HT, HO, HJ1, HE, hz1, HB1, HB2, HB4, HB5, HB6⟩ := hrel
    obtain ⟨A', c', rfl, hs', _⟩ := HO.out.cap
    obtain ⟨fn, tmps, assign, body, hy, hR⟩ := HY.out pre ⟨A', C.length, c', true, Lib.hid fun h => (by cases h)⟩ wr HJ1.out (by have := HP.out; omega)
    dsimp only at hy
    have HS' := Lib.hid hs'
    clear hs'
    have c5' := HB5.out.cell
    have l5' := HB5.out.lt
    gi_wp2
    refine ⟨fun h => (by cases h), hR.mono ?_⟩
    rintro e9 W3 (⟨rfl, hJ3, hk3⟩ | ⟨rfl, hJx3⟩)
    · have HO3 := Lib.hid (KpB.own hk3 hb HO.out)
      have HJ3 := Lib.hid hJ3
      have HE3 : Hid (Ext w0 W3) := Lib.hid (Below.trans HE.out hk3.1)
      have hz3 : bs ≤ W3.heap.size := Nat.le_trans hz1 hk3.1.size
      replace HB1 := Lib.hid (hk3.blk n1' HB1.out)
      replace HB2 := Lib.hid (hk3.blk n2' HB2.out)
      replace HB4 := Lib.hid (hk3.blk n4' HB4.out)
      replace HB5 := Lib.hid (hk3.blk n5' HB5.out)
      replace HB6 := Lib.hid (hk3.blk n6' HB6.out)
      clear c5' l5' hk3 hJ3 HO HJ1 HE hz1 HS' hy hR
      have c1' := HB1.out.cell
      have c2' := HB2.out.cell
      have c4' := HB4.out.cell
      have c5' := HB5.out.cell
      have c6' := HB6.out.cell
      have l1' := HB1.out.lt
      have l2' := HB2.out.lt
      have l4' := HB4.out.lt
      have l5' := HB5.out.lt
      have l6' := HB6.out.lt
      by_cases hlt : k < N
      · obtain ⟨A2', c2'', hA2, hs2, _⟩ := HO3.out.cap
        injection hA2 with e1 e2 e3
        subst e1 e3
        clear e2
        have HS2 := Lib.hid hs2
        clear hs2
        have ht' := HT.out
        rw [show N - k = N - (k + 1) + 1 by omega, updM, ← HH.out] at ht'
        gi_wp2
        refine ⟨trivial, fun h => (by cases h), (callsIn_wide.2 (HA.out (tick + (k : Int)) (by omega) A' C.length c' C _ HE3.out HS2.out (by omega) HCV.out)).mono ?_⟩
        rintro e8 w4 ⟨v4, rfl, ho4, h4⟩
        have HJ4 := Lib.hid (HJ.out _ W3 w4 none HJ3.out (ext_grown h4) (by intro r hr; cases hr))
        have HE4 := Lib.hid (HE3.out.trans h4)
        have hz4 : bs ≤ w4.heap.size := Nat.le_trans hz3 h4.size
        replace HB1 := Lib.hid (HB1.out.ext h4)
        replace HB2 := Lib.hid (HB2.out.ext h4)
        replace HB4 := Lib.hid (HB4.out.ext h4)
        replace HB5 := Lib.hid (HB5.out.ext h4)
        replace HB6 := Lib.hid (HB6.out.ext h4)
        clear c1' c2' c4' c5' c6' l1' l2' l4' l5' l6' h4 HJ3 HE3 HO3 HS2
        have c1' := HB1.out.cell
        have c2' := HB2.out.cell
        have c4' := HB4.out.cell
        have l1' := HB1.out.lt
        have l2' := HB2.out.lt
        have l4' := HB4.out.lt
        cases hK : allB (stepB s.world.bodies home ⟨⟨ll, lh⟩, ⟨hl', hh⟩, g⟩ (tick + (k : Int))) C
        · rw [hK] at ht'
          have HTn : Hid (T = none) := Lib.hid (by simpa using ht'.symm)
          obtain ⟨fn, tmps, assign, body, hy, hR⟩ := HY.out (pre ++ [⟨A', C.length, c', true, Lib.hid fun h => (by cases h)⟩]) ⟨none, 0, 0, false, Lib.hid fun _ => HTn.out⟩ w4 HJ4.out (by rw [List.length_append, List.length_singleton]; have := HP.out; omega)
          dsimp only at hy
          clear ht' ho4
          gi_wp2
          refine ⟨fun h => (by cases h), hR.mono ?_⟩
          rintro e7 W5 (⟨rfl, hJ5, hk5⟩ | ⟨rfl, hJx5⟩)
          · gi_wp2
            refine bodyPost_ret (results_none rfl _ _ _) rfl ?_
            exact ⟨⟨_, rfl⟩, .inl ⟨_, ⟨_, _, rfl, .inr rfl⟩, hJ5⟩⟩
          · gi_wp2
            refine bodyPost_ret (results_none rfl _ _ _) rfl ?_
            exact ⟨⟨_, rfl⟩, .inr ⟨_, trivial, hJx5⟩⟩
        · rw [hK] at ht' ho4
          simp only [if_true] at ht' ho4
          have hv4 := all_ok hK
          have hlC : (C.map (stepB s.world.bodies home ⟨⟨ll, lh⟩, ⟨hl', hh⟩, g⟩ (tick + (k : Int)))).length ≤ 512 := by rw [List.length_map]; exact hC
          obtain ⟨A4, c4, rfl, hs4, _⟩ := ho4.cap
          have HS4 := Lib.hid hs4
          have Ht := Lib.hid ht'
          generalize C.map (stepB s.world.bodies home ⟨⟨ll, lh⟩, ⟨hl', hh⟩, g⟩ (tick + (k : Int))) = C4 at *
          have hl5 := Nat.le_trans (filt_len s (tick + k + 1) sg C4) hlC
          have HV5 := Lib.hid (filt_ok (s := s) (t := tick + k + 1) (sg := sg) hv4)
          clear ho4 hs4 ht' hv4 hK HCV
          gi_wp2
          refine ⟨trivial, fun h => (by cases h), (callsIn_wide.2 (HF.out (tick + (k : Int) + 1) A4 C4.length c4 C4 _ HE4.out HS4.out (by omega))).mono ?_⟩
          rintro e7 w5 ⟨v5, rfl, ho5, h5⟩
          have HO5 := Lib.hid (ho5.mono (base' := bs) hz4)
          have HJ5 := Lib.hid (HJ.out _ w4 w5 none HJ4.out (ext_grown h5) (by intro r hr; cases hr))
          replace HB1 := Lib.hid (HB1.out.ext h5)
          replace HB2 := Lib.hid (HB2.out.ext h5)
          replace HB4 := Lib.hid (HB4.out.ext h5)
          replace HB5 := Lib.hid (HB5.out.ext h5)
          replace HB6 := Lib.hid (HB6.out.ext h5)
          replace HE4 := Lib.hid (HE4.out.trans h5)
          replace hz4 : bs ≤ w5.heap.size := Nat.le_trans hz4 h5.size
          have Ht2 : Hid (updM s ⟨⟨ll, lh⟩, ⟨hl', hh⟩, g⟩ sg (N - (k + 1)) (tick + ((k + 1 : Nat) : Int)) (filtL s (tick + k + 1) sg C4) = T) := by
            rw [show tick + ((k + 1 : Nat) : Int) = tick + k + 1 by omega]
            exact Ht
          generalize filtL s (tick + k + 1) sg C4 = C5 at *
          clear c1' c2' c4' l1' l2' l4' h5 ho5 HJ4 Ht HS4
          gi_wp2
          go_roundw
          case rel => exact ⟨k + 1, C5, _, by omega, by go_num, Lib.hid (by rw [List.length_append, List.length_singleton, HP.out]), hl5, HV5, Ht2, HO5, HJ5, HE4, hz4, HB1, HB2, HB4, HB5, HB6⟩
          case measure => simp [intOf]; omega
      · have hkn : k = N := by omega
        have ht' := HT.out
        rw [hkn, Nat.sub_self, updM] at ht'
        gi_wp2
        go_end0
        exact ⟨⟨_, rfl⟩, .inl ⟨_, ⟨_, _, rfl, .inl ⟨rfl, C, ht'.symm, HO3.out⟩⟩, HJ3.out⟩⟩
    · gi_wp2
      go_end0
      exact ⟨⟨_, rfl⟩, .inr ⟨_, trivial, hJx3⟩⟩
end Go.Proofs.YtfniicgoeljmdaaGreat

namespace Go.Proofs.YtfniicgoeljmdaaGreat
open Go.RowKit

theorem excl_agree {s : Sky} {x : Sight} {xl xh yl yh px py : Int} (h : exclAll s x xl xh yl yh = true) (h1 : xl ≤ px ∧ px ≤ xh) (h2 : yl ≤ py ∧ py ≤ yh) : agreesAll s x px py = false := by
  unfold exclAll at h
  simp only [Bool.and_eq_true] at h
  unfold agreesAll
  rw [excl_agrees s x h.2 h1.1 h1.2 h2.1 h2.2]
  simp
def witB (s : Sky) (t : Int) (sg : List Sight) (p : St) : Prop := ∀ x ∈ sg, x.tick = t → agreesAll s x p.x p.y = true
theorem in_iff {L : List Bx} {p : St} : inSet L p = true ↔ ∃ b ∈ L, holdsB b p = true := by unfold inSet; rw [List.any_eq_true]
theorem filt_holds {s : Sky} {t : Int} {sg : List Sight} {p : St} (hw : witB s t sg p) {b : Bx} (hb : holdsB b p = true) : filtB s t sg b = false := by
  rw [← Bool.not_eq_true]
  intro h
  unfold filtB at h
  obtain ⟨x, hx, hh⟩ := List.any_eq_true.1 h
  unfold hitB at hh
  simp only [Bool.and_eq_true, decide_eq_true_eq] at hh
  rw [holdsB_iff] at hb
  have := excl_agree hh.2 hb.1 hb.2.1
  rw [hw x hx hh.1] at this
  cases this
theorem filt_in {s : Sky} {t : Int} {sg : List Sight} {p : St} (hw : witB s t sg p) {L : List Bx} (h : inSet L p = true) : inSet (filtL s t sg L) p = true := by
  obtain ⟨b, hb, hp⟩ := in_iff.1 h
  refine in_iff.2 ⟨b, List.mem_filter.2 ⟨hb, ?_⟩, hp⟩
  rw [filt_holds hw hp]; rfl
theorem filt_none (s : Sky) (t : Int) (L : List Bx) : filtL s t [] L = L := by
  unfold filtL filtB
  simp
theorem upd_none (s : Sky) (d : Drf) : ∀ (k : Nat) (t : Int) (L : List Bx), updM s d [] k t L = propM s.world.bodies s.world.home d k t L
  | 0, _, _ => rfl
  | k + 1, t, L => by rw [updM, propM, filt_none, upd_none s d k]
def nextTo (l : List Body) (home : Int) (d : Drf) (t : Int) (p q : St) : Prop := ((overA l home d t (ptA p)).x.lo ≤ q.u - p.u ∧ q.u - p.u ≤ (overA l home d t (ptA p)).x.hi) ∧ ((overA l home d t (ptA p)).y.lo ≤ q.v - p.v ∧ q.v - p.v ≤ (overA l home d t (ptA p)).y.hi) ∧ q.x = p.x + q.u ∧ q.y = p.y + q.v
theorem upd_truth {s : Sky} {d : Drf} {sg : List Sight} (T : Nat → St) : ∀ (k : Nat) (t : Int) (i : Nat) (L K : List Bx), (∀ j < k, Moves s.world.bodies s.world.home d (t + j)) → (∀ b ∈ L, bxErr b = 0) → inSet L (T i) = true →
    (∀ j < k, nextTo s.world.bodies s.world.home d (t + j) (T (i + j)) (T (i + j + 1)) ∧ witB s (t + j + 1) sg (T (i + j + 1))) → updM s d sg k t L = some K → inSet K (T (i + k)) = true
  | 0, t, i, L, K, _, _, hi, _, h => by rw [updM] at h; injection h with h; subst h; exact hi
  | k + 1, t, i, L, K, hm, hv, hi, hn, h => by
    rw [updM] at h
    by_cases ha : allB (stepB s.world.bodies s.world.home d t) L = true
    · rw [if_pos ha] at h
      have hval : ∀ b ∈ L, bxErr (stepB s.world.bodies s.world.home d t b) = 0 := fun b hb => by have := List.all_eq_true.1 ha b hb; simpa using this
      have m0 := hm 0 (by omega)
      obtain ⟨⟨n1, n2, n3, n4⟩, n5⟩ := hn 0 (by omega)
      simp only [Nat.add_zero, Int.natCast_zero, Int.add_zero] at m0 n1 n2 n3 n4 n5
      obtain ⟨b, hb, hp⟩ := in_iff.1 hi
      have hstep := m0.step_holds (hv b hb) hp n1 n2 n3 n4
      have := upd_truth T k (t + 1) (i + 1) _ K (fun j hj => by have := hm (j + 1) (by omega); rw [show t + 1 + (j : Int) = t + ((j + 1 : Nat) : Int) by omega]; exact this) (fun c hc => ?_) (filt_in n5 (in_iff.2 ⟨_, List.mem_map.2 ⟨b, hb, rfl⟩, hstep⟩)) (fun j hj => ?_) h
      · rw [show i + (k + 1) = i + 1 + k by omega]; exact this
      · obtain ⟨b', hb', rfl⟩ := List.mem_map.1 (List.mem_filter.1 hc).1
        exact hval b' hb'
      · have := hn (j + 1) (by omega)
        rw [show t + 1 + (j : Int) = t + ((j + 1 : Nat) : Int) by omega, show i + 1 + j = i + (j + 1) by omega]
        exact this
    · rw [if_neg ha] at h; cases h
end Go.Proofs.YtfniicgoeljmdaaGreat

namespace Go.Proofs.YtfniicgoeljmdaaGreat
open Go.RowKit

def lenOf : Value → Nat
  | .slice _ n _ => n
  | _ => 0
end Go.Proofs.YtfniicgoeljmdaaGreat

namespace Go.Proofs.YtfniicgoeljmdaaGreat
open Go.RowKit

theorem way_ok {tick ticks : Int} {L : List Bx} (h : wayErr tick ticks L = 0) : (0 ≤ ticks ∧ ticks ≤ 400) ∧ (0 ≤ tick ∧ tick ≤ 1073741824 - ticks) ∧ setErr L = 0 := by
  unfold wayErr at h
  by_cases h1 : (0 ≤ ticks ∧ ticks ≤ 400) ∧ 0 ≤ tick ∧ tick ≤ 1073741824 - ticks
  · rw [if_pos h1] at h
    exact ⟨h1.1, h1.2, h⟩
  · rw [if_neg h1] at h
    cases h
set_option maxRecDepth 20000 in
set_option maxHeartbeats 4000000 in
theorem oProp_yes (A : Option Addr) (n c : Nat) (home : Int) (l : List Body) (d : Drf) (tick : Int) (B : Option Addr) (m e : Nat) (L : List Bx) (N : Nat) (w : World) (hl : Bodies w A n l) (hL : Bxs w B m L) (h1 : wdErr l home d = 0) (h2 : wayErr tick N L = 0) :
    Calls Tryz.prog 25 #[.agg #[.slice A n c, .int .i64 home], .agg #[.int .i64 d.light.lo, .int .i64 d.light.hi, .int .i64 d.heat.lo, .int .i64 d.heat.hi, .int .i64 d.gas], .int .i64 tick, .slice B m e, .int .i64 (N : Int)] w fun e w' =>
      ∃ v, e = .returned (.tuple #[v, .int .i64 (if (propM l home d N tick L).isSome then 0 else 14)]) ∧ OwnBxs w.heap.size w' v ((propM l home d N tick L).getD []) ∧ Ext w w' := by
  obtain ⟨hk1, hk2, hk3⟩ := way_ok h2
  obtain ⟨hs1, hs2⟩ := set_ok hk3
  have hln := hL.len
  have HW := Lib.hid fun W (hW : Ext w W) => oCheckWorld_c A n c home l d.light.lo d.light.hi d.heat.lo d.heat.hi d.gas W (Bodies.ext hW hl)
  have hd : (⟨⟨d.light.lo, d.light.hi⟩, ⟨d.heat.lo, d.heat.hi⟩, d.gas⟩ : Drf) = d := rfl
  rw [hd, h1] at HW
  have HY := Lib.hid fun W (hW : Ext w W) => oWay_c tick N B m e L W (Bxs.ext hW hL)
  rw [h2] at HY
  have HC := Lib.hid fun W (hW : Ext w W) => CloneBox_c B m e L W (Bxs.ext hW hL) (by omega)
  have HA := Lib.hid fun (t : Int) (ht : 0 ≤ t ∧ t ≤ 1073741824) A' (k c' : Nat) (L' : List Bx) W (hW : Ext w W) (h : Bxs W A' k L') (hk : k ≤ 2000) (hv : ∀ b ∈ L', bxErr b = 0) => oAll_c A n c home l d t A' k c' L' W (Bodies.ext hW hl) h1 ht h hk hv
  obtain ⟨T, hT⟩ : ∃ T, propM l home d N tick L = T := ⟨_, rfl⟩
  rw [hT]
  have HT := Lib.hid hT
  have HV := Lib.hid hs2
  obtain ⟨hn1, hn2⟩ := hk1
  obtain ⟨ht1, ht2⟩ := hk2
  obtain ⟨⟨ll, lh⟩, ⟨hl', hh⟩, g⟩ := d
  dsimp only at HW HA ⊢
  clear hT hs2 hk3 h1 h2 hl hL hln hd
  go_enter Tryz.func25, Tryz.ntmps25
  go_wp2_with fail
  refine (HW.out _ ext_by).mono ?_
  rintro e w1 ⟨rfl, h1⟩
  have B5 : Blk w1 w.heap.size 24 #[.slice A n c, .int .i64 home] := ((Blk.newAt rfl).alloc _).ext h1
  have B6 : Blk w1 (w.heap.size + 1) 28 #[.int .i64 ll, .int .i64 lh, .int .i64 hl', .int .i64 hh, .int .i64 g] := (Blk.newAt (by simp)).ext h1
  have E : Ext w w1 := ext_by
  clear h1 HW
  go_wp2_with fail
  refine (HY.out _ E).mono ?_
  rintro e w2 ⟨rfl, h2⟩
  replace B5 := B5.ext h2
  replace B6 := B6.ext h2
  replace E := E.trans h2
  clear h2 HY
  go_wp2_with fail
  refine (HC.out _ E).mono ?_
  rintro e w3 ⟨v3, rfl, ho3, h3⟩
  have hz := E.size
  have HO3 := Lib.hid (ho3.mono (base' := w.heap.size) hz)
  replace B5 := B5.ext h3
  replace B6 := B6.ext h3
  replace E := E.trans h3
  clear h3 ho3 HC hz
  go_wp2_with fail
  go_loopw [14, 34] (fun o i wr => ∃ (k : Nat) (C : List Bx), k ≤ N ∧ i = .int .i64 k ∧ C.length ≤ 512 ∧ Hid (∀ b ∈ C, bxErr b = 0) ∧ Hid (propM l home ⟨⟨ll, lh⟩, ⟨hl', hh⟩, g⟩ (N - k) (tick + k) C = T) ∧ Hid (OwnBxs w.heap.size wr o C) ∧ Hid (Blk wr w.heap.size 24 #[.slice A n c, .int .i64 home]) ∧ Hid (Blk wr (w.heap.size + 1) 28 #[.int .i64 ll, .int .i64 lh, .int .i64 hl', .int .i64 hh, .int .i64 g]) ∧ Ext w wr) (fun _ i _ => N - (intOf i).toNat)
  case atStart => exact ⟨0, L, Nat.zero_le _, rfl, hs1, HV, Lib.hid (by simpa using HT.out), HO3, B5, B6, E⟩
  case round =>
    clear HO3 B5 B6 E HT HV hs1
    obtain ⟨k, C, hk, rfl, hC, HV, HI, HO, B5, B6, E⟩ := hrel
    by_cases hlt : k < N
    · obtain ⟨A', c', rfl, hs', _⟩ := HO.out.cap
      have HS' := Lib.hid hs'
      have hi := HI.out
      rw [show N - k = N - (k + 1) + 1 by omega, propM] at hi
      have c5 := B5.out.cell
      have c6 := B6.out.cell
      have l5 := B5.out.lt
      have l6 := B6.out.lt
      clear hs' HI
      go_wp2_with fail
      refine (HA.out _ (by omega) A' C.length c' C _ E HS'.out (by omega) HV.out).mono ?_
      rintro e w4 ⟨v4, rfl, ho4, h4⟩
      have hz := E.size
      have D5 := Lib.hid (B5.out.ext h4)
      have D6 := Lib.hid (B6.out.ext h4)
      have E4 := E.trans h4
      clear h4 HO HS' B5 B6 c5 c6 l5 l6
      cases hK : allB (stepB l home ⟨⟨ll, lh⟩, ⟨hl', hh⟩, g⟩ (tick + (k : Int))) C
      · rw [hK] at hi
        have hn : (none : Option (List Bx)) = T := by simpa using hi
        subst hn
        clear hi hK ho4
        go_wp2_with fail
        (try simp only [Exit.inBlock, Exit.then]); apply bodyPost_ret; (focus (simp only [results, Tryz.results25]; go_simp; try rfl)); rfl
        exact ⟨_, rfl, OwnBxs.nil _ _, E4⟩
      · rw [hK] at hi ho4
        have hv4 := all_ok hK
        have hlC : (C.map (stepB l home ⟨⟨ll, lh⟩, ⟨hl', hh⟩, g⟩ (tick + (k : Int)))).length ≤ 512 := by rw [List.length_map]; exact hC
        have HO4 := Lib.hid (ho4.mono (base' := w.heap.size) hz)
        simp only [if_true] at hi HO4
        have Hi : Hid (propM l home ⟨⟨ll, lh⟩, ⟨hl', hh⟩, g⟩ (N - (k + 1)) (tick + ((k + 1 : Nat) : Int)) (C.map (stepB l home ⟨⟨ll, lh⟩, ⟨hl', hh⟩, g⟩ (tick + (k : Int)))) = T) := by
          rw [show tick + ((k + 1 : Nat) : Int) = tick + k + 1 by omega]
          exact hi
        have HV4 := Lib.hid hv4
        generalize C.map (stepB l home ⟨⟨ll, lh⟩, ⟨hl', hh⟩, g⟩ (tick + (k : Int))) = C2 at *
        clear hi hK ho4 hv4
        go_wp2_with fail
        go_roundw
        case rel => exact ⟨k + 1, C2, by omega, by go_num, hlC, HV4, Hi, HO4, D5, D6, E4⟩
        case measure => simp [intOf]; omega
    · have hkn : k = N := by omega
      have hi := HI.out
      rw [hkn, Nat.sub_self, propM] at hi
      subst hi
      clear HI hkn
      go_wp2_with fail
      (try simp only [Exit.inBlock, Exit.then]); apply bodyPost_ret; (focus (simp only [results, Tryz.results25]; go_simp; try rfl)); rfl
      exact ⟨_, rfl, HO.out, E⟩
theorem prop_err {l : List Body} {home : Int} {d : Drf} {tick : Int} {L : List Bx} {ticks : Int} (h1 : wdErr l home d = 0) (h2 : wayErr tick ticks L = 0) : propErr l home d tick L ticks = (if (propM l home d ticks.toNat tick L).isSome then 0 else 14) ∧ propL l home d tick L ticks = (propM l home d ticks.toNat tick L).getD [] := by
  exact ⟨by unfold propErr; rw [if_pos h1, if_pos h2], by unfold propL; rw [if_pos (And.intro h1 h2)]⟩
set_option maxRecDepth 20000 in
set_option maxHeartbeats 1000000 in
theorem oPropagate_c (A : Option Addr) (n c : Nat) (home : Int) (l : List Body) (d : Drf) (tick : Int) (B : Option Addr) (m e : Nat) (L : List Bx) (ticks : Int) (w : World) (hl : Bodies w A n l) (hL : Bxs w B m L) :
    Calls Tryz.prog 25 #[.agg #[.slice A n c, .int .i64 home], .agg #[.int .i64 d.light.lo, .int .i64 d.light.hi, .int .i64 d.heat.lo, .int .i64 d.heat.hi, .int .i64 d.gas], .int .i64 tick, .slice B m e, .int .i64 ticks] w fun e w' =>
      ∃ v, e = .returned (.tuple #[v, .int .i64 (propErr l home d tick L ticks)]) ∧ OwnBxs w.heap.size w' v (propL l home d tick L ticks) ∧ Ext w w' := by
  by_cases h1 : wdErr l home d = 0
  · by_cases h2 : wayErr tick ticks L = 0
    · obtain ⟨p1, p2⟩ := prop_err h1 h2
      rw [p1, p2]
      have hw := (way_ok h2).1
      have := oProp_yes A n c home l d tick B m e L ticks.toNat w hl hL h1 (by rw [show ((ticks.toNat : Nat) : Int) = ticks by omega]; exact h2)
      rw [show ((ticks.toNat : Nat) : Int) = ticks by omega] at this
      exact this
    · have p1 : propErr l home d tick L ticks = wayErr tick ticks L := by unfold propErr; rw [if_pos h1, if_neg h2]
      have p2 : propL l home d tick L ticks = [] := by unfold propL; rw [if_neg (fun h => h2 h.2)]
      rw [p1, p2]
      have HW := Lib.hid fun W (hW : Ext w W) => oCheckWorld_c A n c home l d.light.lo d.light.hi d.heat.lo d.heat.hi d.gas W (Bodies.ext hW hl)
      have hd : (⟨⟨d.light.lo, d.light.hi⟩, ⟨d.heat.lo, d.heat.hi⟩, d.gas⟩ : Drf) = d := rfl
      rw [hd, h1] at HW
      have HY := Lib.hid fun W (hW : Ext w W) => oWay_c tick ticks B m e L W (Bxs.ext hW hL)
      generalize wayErr tick ticks L = Y at *
      obtain ⟨⟨ll, lh⟩, ⟨hl', hh⟩, g⟩ := d
      dsimp only at HW ⊢
      clear hl hL h1 hd p1 p2
      go_enter Tryz.func25, Tryz.ntmps25
      go_wp2_with fail
      refine (HW.out _ ext_by).mono ?_
      rintro e w1 ⟨rfl, h1⟩
      obtain ⟨hc_w1, hf_w1, hz_w1⟩ := bcell h1; (try simp only [szA] at hz_w1); (try have := wz0 w w1); (try have := wz1 w w1); (try have := wz2 w w1); (try have := wz3 w w1); (try have := wz4 w w1)
      go_wp2_with fail
      refine (HY.out _ ext_by).mono ?_
      rintro e w2 ⟨rfl, h2⟩
      obtain ⟨hc_w2, hf_w2, hz_w2⟩ := bcell h2; (try simp only [szA] at hz_w2); (try have := wz0 w w2); (try have := wz1 w w2); (try have := wz2 w w2); (try have := wz3 w w2); (try have := wz4 w w2)
      go_wp2_with fail
      (try simp only [Exit.inBlock, Exit.then]); apply bodyPost_ret; (focus (simp only [results, Tryz.results25]; go_simp; try rfl)); rfl
      exact ⟨_, rfl, OwnBxs.nil _ _, ext_by⟩
  · have p1 : propErr l home d tick L ticks = wdErr l home d := by unfold propErr; rw [if_neg h1]
    have p2 : propL l home d tick L ticks = [] := by unfold propL; rw [if_neg (fun h => h1 h.1)]
    rw [p1, p2]
    have HW := Lib.hid fun W (hW : Ext w W) => oCheckWorld_c A n c home l d.light.lo d.light.hi d.heat.lo d.heat.hi d.gas W (Bodies.ext hW hl)
    have hd : (⟨⟨d.light.lo, d.light.hi⟩, ⟨d.heat.lo, d.heat.hi⟩, d.gas⟩ : Drf) = d := rfl
    rw [hd] at HW
    generalize wdErr l home d = Y at *
    obtain ⟨⟨ll, lh⟩, ⟨hl', hh⟩, g⟩ := d
    dsimp only at HW ⊢
    clear hl hL hd p1 p2
    go_enter Tryz.func25, Tryz.ntmps25
    go_wp2_with fail
    refine (HW.out _ ext_by).mono ?_
    rintro e w1 ⟨rfl, h1⟩
    obtain ⟨hc_w1, hf_w1, hz_w1⟩ := bcell h1; (try simp only [szA] at hz_w1); (try have := wz0 w w1); (try have := wz1 w w1); (try have := wz2 w w1); (try have := wz3 w w1); (try have := wz4 w w1)
    go_wp2_with fail
    (try simp only [Exit.inBlock, Exit.then]); apply bodyPost_ret; (focus (simp only [results, Tryz.results25]; go_simp; try rfl)); rfl
    exact ⟨_, rfl, OwnBxs.nil _ _, ext_by⟩
end Go.Proofs.YtfniicgoeljmdaaGreat

namespace Go.Proofs.YtfniicgoeljmdaaGreat
open Go.RowKit Go.Shelf
attribute [local go_sem] Oper.semAt_some

def updErr (s : Sky) (d : Drf) (tick : Int) (L : List Bx) (ticks : Int) (sg : List Sight) : Int :=
  if skyErr s = 0 then (if driftErr d = 0 then (if wayErr tick ticks L = 0 then (if sgsErr s sg = 0 then (if (updM s d sg ticks.toNat tick (filtL s tick sg L)).isSome then 0 else 14) else sgsErr s sg) else wayErr tick ticks L) else driftErr d) else skyErr s
def updL (s : Sky) (d : Drf) (tick : Int) (L : List Bx) (ticks : Int) (sg : List Sight) : List Bx :=
  if updErr s d tick L ticks sg = 0 then (updM s d sg ticks.toNat tick (filtL s tick sg L)).getD [] else []
theorem KpB.setAt {nb b : Nat} (h : nb ≤ b) (W : World) (i : Nat) (u : Value) : KpB nb b W (W.setCell ⟨b, i, none⟩ u) :=
  ⟨(Below.refl _ _).setCell h _, fun g _ _ _ hg hc => (Below.heap_setCell W _ u g (fun e => hg e)).trans hc⟩
theorem own_low {base : Nat} {W : World} {v : Value} {L : List Bx} (ho : OwnBxs base W v L) {p : Addr} (hp : p.block < base) (u : Value) : OwnBxs base (W.setCell p u) v L := by
  refine ⟨ho.1, ?_⟩
  rcases ho.2 with hn | ⟨g, cap, cur, rfl, hbg, hg, rest⟩
  · exact .inl hn
  · exact .inr ⟨g, cap, cur, rfl, hbg, (Below.heap_setCell W p u g (by omega)).trans hg, rest⟩
def lastV {T : Option (List Bx)} (pre : List (UpV T)) : Value := (pre.getLast?.map fun x => Value.slice x.A x.n x.c).getD (.slice none 0 0)
theorem lastV_app {T : Option (List Bx)} (pre : List (UpV T)) (x : UpV T) : lastV (pre ++ [x]) = .slice x.A x.n x.c := by simp [lastV]
def allYes {T : Option (List Bx)} (pre : List (UpV T)) : Prop := ∀ x ∈ pre, x.ok = true
theorem sky_wd {s : Sky} {d : Drf} (h1 : skyErr s = 0) (h2 : driftErr d = 0) : wdErr s.world.bodies s.world.home d = 0 := by
  refine wdErr_ok.2 ⟨?_, h2⟩
  unfold skyErr at h1
  by_cases h : wldErr s.world = 0
  · exact h
  · rw [if_pos h] at h1; exact absurd h1 h
set_option maxRecDepth 100000 in
set_option maxHeartbeats 4000000 in
theorem oUpd_yes (A1 : Option Addr) (n1 c1 : Nat) (home : Int) (A2 : Option Addr) (n2 c2 : Nat) (A3 : Option Addr) (n3 c3 : Nat) (s : Sky) (d : Drf) (tick : Int) (A : Option Addr) (n c : Nat) (L : List Bx) (N : Nat) (B : Option Addr) (m e : Nat) (sg : List Sight) (w : World) (hs : IsSky w A1 n1 home A2 n2 A3 n3 s) (hl : Bxs w A n L) (hr : Sights w B m sg)
    (h1 : skyErr s = 0) (h2 : driftErr d = 0) (h3 : wayErr tick N L = 0) (h4 : sgsErr s sg = 0) (T : Option (List Bx)) (hT : updM s d sg N tick (filtL s tick sg L) = T) :
    Calls Tryz.prog 54 #[.agg #[.slice A1 n1 c1, .int .i64 home, .slice A2 n2 c2, .slice A3 n3 c3], .agg #[.int .i64 d.light.lo, .int .i64 d.light.hi, .int .i64 d.heat.lo, .int .i64 d.heat.hi, .int .i64 d.gas], .int .i64 tick, .slice A n c, .int .i64 (N : Int), .slice B m e] w fun e' w' =>
      ∃ v, e' = .returned (.tuple #[v, .int .i64 (if T.isSome then 0 else 14)]) ∧ OwnBxs w.heap.size w' v (T.getD []) ∧ Ext w w' := by
  obtain ⟨⟨hk0, hk1⟩, hk2, hk3⟩ := way_ok h3
  obtain ⟨hs1, hs2⟩ := set_ok hk3
  have HK := Lib.hid fun W (hW : Ext w W) => Check_c A1 n1 c1 home A2 n2 c2 A3 n3 c3 s W (hs.ext hW)
  rw [h1] at HK
  have HD := Lib.hid fun W => fCheckDrift_c d.light.lo d.light.hi d.heat.lo d.heat.hi d.gas W
  have hd : (⟨⟨d.light.lo, d.light.hi⟩, ⟨d.heat.lo, d.heat.hi⟩, d.gas⟩ : Drf) = d := rfl
  rw [hd, h2] at HD
  have HY := Lib.hid fun W (hW : Ext w W) => oWay_c tick N A n c L W (Bxs.ext hW hl)
  rw [h3] at HY
  have HS := Lib.hid fun W (hW : Ext w W) => oCheckSights_c A1 n1 c1 home A2 n2 c2 A3 n3 c3 s B m e sg W (hs.ext hW) (Sights.ext hW hr)
  rw [h4] at HS
  have HU := Lib.hid fun W => oUpdates_c A1 n1 c1 home A2 n2 c2 A3 n3 c3 d.light.lo d.light.hi d.heat.lo d.heat.hi d.gas tick A n c (N : Int) B m e W
  have HIT := Lib.hid fun g1 g2 g3 g4 g5 g6 b18 W (hE : Ext w W) => oUpd_iter g1 g2 g3 g4 g5 g6 b18 A1 n1 c1 home A2 n2 c2 A3 n3 c3 s d tick A n c L B m e sg N w W hE hs hl hr (sky_wd h1 h2) (by omega) (by omega) hs1 hs2
  obtain ⟨⟨ll, lh⟩, ⟨hl', hh⟩, g⟩ := d
  dsimp only at HD HU HIT ⊢
  have HT := Lib.hid hT
  obtain ⟨Er, hEr⟩ : ∃ q : Int, (if T.isSome then 0 else 14) = q := ⟨_, rfl⟩
  obtain ⟨TL, hTL⟩ : ∃ q, T.getD [] = q := ⟨_, rfl⟩
  rw [hEr, hTL]
  have HER := Lib.hid hEr
  have HTL := Lib.hid hTL
  clear hs hl hr h1 h2 h3 h4 hd hk0 hk1 hk2 hk3 hs1 hs2 hT hEr hTL
  refine (callsIn_wide (n := 6)).1 (callsIn_of_wp_marks Tryz.func54 rfl trivial ?_)
  simp only [Tryz.ntmps54, List.size_toArray, List.length_cons, List.length_nil, Nat.reduceAdd, Nat.reduceSub, Array.replicate_succ, Array.replicate_zero, List.push_toArray, List.append_toArray, List.nil_append, List.cons_append]
  refine wpIn_wide.2 ?_
  go_wp2_with fail
  refine (HK.out _ ext_by).mono ?_
  rintro e1 V1 ⟨rfl, hV1⟩
  have B7 : Blk V1 (w.heap.size + 1) 28 #[.int .i64 ll, .int .i64 lh, .int .i64 hl', .int .i64 hh, .int .i64 g] := (((Blk.newAt (by simp)).alloc _).alloc _).ext hV1
  have B6 : Blk V1 w.heap.size 53 #[.slice A1 n1 c1, .int .i64 home, .slice A2 n2 c2, .slice A3 n3 c3] := ((((Blk.newAt rfl).alloc _).alloc _).alloc _).ext hV1
  have B12 : Blk V1 (w.heap.size + 1 + 1) 39 #[.slice none 0 0] := ((Blk.newAt (by simp)).alloc _).ext hV1
  have B13 : Blk V1 (w.heap.size + 1 + 1 + 1) 41 #[.int .i64 0] := (Blk.newAt (by simp)).ext hV1
  have E : Ext w V1 := ext_by
  clear hV1 HK
  have c_B6 := B6.cell; have f_B6 := B6.frozen; have l_B6 := B6.lt; have c_B7 := B7.cell; have f_B7 := B7.frozen; have l_B7 := B7.lt; have c_B12 := B12.cell; have f_B12 := B12.frozen; have l_B12 := B12.lt; have c_B13 := B13.cell; have f_B13 := B13.frozen; have l_B13 := B13.lt
  go_wp2_with fail
  refine (HD.out _).mono ?_
  rintro e V2 ⟨rfl, hV2⟩
  clear c_B6 f_B6 l_B6
  replace B6 := B6.ext hV2
  clear c_B7 f_B7 l_B7
  replace B7 := B7.ext hV2
  clear c_B12 f_B12 l_B12
  replace B12 := B12.ext hV2
  clear c_B13 f_B13 l_B13
  replace B13 := B13.ext hV2
  replace E : Ext w V2 := Ext.trans ext_by hV2
  clear hV2
  have c_B6 := B6.cell; have f_B6 := B6.frozen; have l_B6 := B6.lt; have c_B7 := B7.cell; have f_B7 := B7.frozen; have l_B7 := B7.lt; have c_B12 := B12.cell; have f_B12 := B12.frozen; have l_B12 := B12.lt; have c_B13 := B13.cell; have f_B13 := B13.frozen; have l_B13 := B13.lt
  go_wp2_with fail
  refine (HY.out _ ext_by).mono ?_
  rintro e V3 ⟨rfl, hV3⟩
  clear c_B6 f_B6 l_B6
  replace B6 := B6.ext hV3
  clear c_B7 f_B7 l_B7
  replace B7 := B7.ext hV3
  clear c_B12 f_B12 l_B12
  replace B12 := B12.ext hV3
  clear c_B13 f_B13 l_B13
  replace B13 := B13.ext hV3
  replace E : Ext w V3 := Ext.trans ext_by hV3
  clear hV3
  have c_B6 := B6.cell; have f_B6 := B6.frozen; have l_B6 := B6.lt; have c_B7 := B7.cell; have f_B7 := B7.frozen; have l_B7 := B7.lt; have c_B12 := B12.cell; have f_B12 := B12.frozen; have l_B12 := B12.lt; have c_B13 := B13.cell; have f_B13 := B13.frozen; have l_B13 := B13.lt
  go_wp2_with fail
  refine (HS.out _ ext_by).mono ?_
  rintro e V4 ⟨rfl, hV4⟩
  clear c_B6 f_B6 l_B6
  replace B6 := B6.ext hV4
  clear c_B7 f_B7 l_B7
  replace B7 := B7.ext hV4
  clear c_B12 f_B12 l_B12
  replace B12 := B12.ext hV4
  clear c_B13 f_B13 l_B13
  replace B13 := B13.ext hV4
  replace E : Ext w V4 := Ext.trans ext_by hV4
  clear hV4
  have c_B6 := B6.cell; have f_B6 := B6.frozen; have l_B6 := B6.lt; have c_B7 := B7.cell; have f_B7 := B7.frozen; have l_B7 := B7.lt; have c_B12 := B12.cell; have f_B12 := B12.frozen; have l_B12 := B12.lt; have c_B13 := B13.cell; have f_B13 := B13.frozen; have l_B13 := B13.lt
  go_wp2_with fail
  refine (HU.out _).mono ?_
  rintro e5 V5 ⟨b, hb, rfl, hV5, hG1, hG6, hG2, hG3, hG5, hG4⟩
  obtain ⟨b18, h18⟩ : ∃ q, q = V4.heap.size := ⟨_, rfl⟩
  have B18 : Blk V5 b18 39 #[.slice none 0 0] := (Blk.newAt h18).ext hV5
  have hb2 : b = b18 + 1 := by rw [hb, h18]; simp
  have o1 : w.heap.size + 1 + 1 + 1 < b18 := by have := B13.lt; omega
  have hV45 : Ext V4 V5 := (Ext.alloc0 _ _).trans hV5
  clear c_B6 f_B6 l_B6 c_B7 f_B7 l_B7 c_B12 f_B12 l_B12 c_B13 f_B13 l_B13
  replace B12 := B12.ext hV45
  replace B13 := B13.ext hV45
  replace E := E.trans hV45
  have o2 : b18 < V5.heap.size := B18.lt
  have hit := HIT.out b (b + 1 + 1) (b + 1 + 1 + 1) (b + 1 + 1 + 1 + 1 + 1) (b + 1 + 1 + 1 + 1) (b + 1) b18 V5 E hG1 hG2 hG3 hG4 hG5 hG6 o2 T HT.out ⟨by omega, by omega, by omega, by omega, by omega, by omega⟩
  rw [← h18]
  clear HIT HU hV5 hV45 hG1 hG2 hG3 hG4 hG5 hG6 B6 B7 HT h18 hb hb2 HS HY HD
  go_wp2_with fail
  refine wp_range_told hit rfl Tryz.call145 (fun _ => rfl) KpB.trans (KpB.put (by omega)) (updS_from _ _ _)
    (fun pre W => (allYes pre ∧ Ext w W) ∧ Blk W (w.heap.size + 1 + 1) 39 #[.slice none 0 0] ∧ Blk W (w.heap.size + 1 + 1 + 1) 41 #[.int .i64 0] ∧ Blk W b18 39 #[lastV pre])
    (fun c pre W => ((c = .ret ∧ Hid (T = none)) ∧ Ext w W) ∧ Blk W (w.heap.size + 1 + 1) 39 #[.slice none 0 0] ∧ Blk W (w.heap.size + 1 + 1 + 1) 41 #[.int .i64 14])
    (OwnFrom.and (OwnFrom.and (ownFrom_pure _ _) (ownFrom_ext (by omega))) (OwnFrom.and (ownFrom_blk _ _ _ _) (OwnFrom.and (ownFrom_blk _ _ _ _) (ownFrom_blk _ _ _ _))))
    (fun c => OwnFrom.and (OwnFrom.and (ownFrom_pure _ _) (ownFrom_ext (by omega))) (OwnFrom.and (ownFrom_blk _ _ _ _) (ownFrom_blk _ _ _ _)))
    ⟨⟨fun x hx => (by cases hx), E⟩, B12, B13, B18⟩
    (fun x t => (((t.setIfInBounds 51 (.slice x.A x.n x.c)).setIfInBounds 52 (.bool x.ok)).setIfInBounds 19 (.slice x.A x.n x.c)).setIfInBounds 20 (.bool x.ok)) ?assign ?body ?done ?stop
  case assign =>
    intro l n x W K hK
    simp only [List.setIfInBounds_toArray, List.set_cons_zero, List.set_cons_succ] at hK
    simp only [updE]
    gi_wp2
    exact hK
  case body =>
    rintro lb n pre x W hlt hW ⟨⟨hp, he⟩, hb12, hb13, hb18⟩
    simp only [List.setIfInBounds_toArray, List.set_cons_zero, List.set_cons_succ]
    have c12 := hb12.cell
    have f12 := hb12.frozen
    have l12 := hb12.lt
    have c13 := hb13.cell
    have f13 := hb13.frozen
    have l13 := hb13.lt
    have c18 := hb18.cell
    have f18 := hb18.frozen
    have l18 := hb18.lt
    have HP := Lib.hid hp
    have HE := Lib.hid he
    have H12 := Lib.hid hb12
    have H13 := Lib.hid hb13
    have H18 := Lib.hid hb18
    obtain ⟨xA, xn, xc, xb, hx⟩ := x
    have HX := hx
    clear hp he hb12 hb13 hb18 hlt
    dsimp only
    cases xb
    · gi_wp2
      exact ⟨((KeepsOthers.setCell _ _ _).from _).trans ((KeepsOthers.setCell _ _ _).from _), ⟨⟨rfl, Lib.hid (HX.out (by first | trivial | rfl))⟩, (HE.out.set (by dsimp only; omega) _).set (by dsimp only; omega) _⟩, (H12.out.set_ 0 _).far (by dsimp only; omega) _, (H13.out.far (by dsimp only; omega) _).set_ 0 _⟩
    · gi_wp2
      refine ⟨(KeepsOthers.setCell _ _ _).from _, KpB.setAt (by omega) _ _ _, ⟨fun y hy => ?_, HE.out.set (by dsimp only; omega) _⟩, H12.out.far (by dsimp only; omega) _, H13.out.far (by dsimp only; omega) _, ?_⟩
      · rcases List.mem_append.1 hy with h | h
        · exact HP.out y h
        · rw [List.mem_singleton.1 h]
      · rw [lastV_app]; exact H18.out.set_ 0 _
  case done =>
    rintro D xs W hD ⟨pre, x, rfl, hS⟩ ⟨⟨hp, he⟩, hb12, hb13, hb18⟩ hK
    rw [lastV_app] at hb18
    have hok := hp x (by simp)
    obtain ⟨L', hT, hO⟩ : ∃ L', T = some L' ∧ OwnBxs V5.heap.size W (.slice x.A x.n x.c) L' := by
      rcases hS with ⟨_, h⟩ | h
      · exact h
      · rw [hok] at h; cases h
    obtain ⟨xA, xn, xc, xb, hx⟩ := x
    have c12 := hb12.cell
    have f12 := hb12.frozen
    have l12 := hb12.lt
    have c13 := hb13.cell
    have f13 := hb13.frozen
    have l13 := hb13.lt
    have c18 := hb18.cell
    have l18 := hb18.lt
    have n1 : w.heap.size + 1 + 1 ≠ D := by omega
    have n2 : w.heap.size + 1 + 1 + 1 ≠ D := by omega
    have HTT := Lib.hid hT
    have HO := Lib.hid hO
    clear hS hok hp hit hT hO
    dsimp only at c18 HO ⊢
    go_wp2_with fail
    have hK' : ((W.setCell ⟨w.heap.size + 1 + 1, 0, none⟩ (.slice xA xn xc)).setCell ⟨w.heap.size + 1 + 1 + 1, 0, none⟩ (.int .i64 0)).heap[D]? = some (.deferred (some [])) := by
      rw [Below.heap_setCell _ _ _ _ (fun e => n2 e.symm), Below.heap_setCell _ _ _ _ (fun e => n1 e.symm)]; exact hK
    refine ⟨by simp, .inl ⟨_, _, rfl, run_takeDeferred hK', ?_⟩⟩
    have hB12 := (Blk.put (o := Obj.deferred none) ((hb12.set_ 0 (.slice xA xn xc)).far (p := ⟨w.heap.size + 1 + 1 + 1, 0, none⟩) (by dsimp only; omega) (.int .i64 0)) n1).cell
    have hB13 := (Blk.put (o := Obj.deferred none) ((hb13.far (p := ⟨w.heap.size + 1 + 1, 0, none⟩) (by dsimp only; omega) (.slice xA xn xc)).set_ 0 (.int .i64 0)) n2).cell
    refine ⟨.tuple #[.slice xA xn xc, .int .i64 0], ?_, .slice xA xn xc, by rw [← HER.out, HTT.out]; rfl, ?_, Ext.put ((he.set (by dsimp only; omega) _).set (by dsimp only; omega) _) (by omega)⟩
    · simp only [results, Tryz.results54]
      go_simp
    · have h5 := own_from (B := 0) (own_low (own_low HO.out (p := ⟨w.heap.size + 1 + 1, 0, none⟩) (by dsimp only; omega) (.slice xA xn xc)) (p := ⟨w.heap.size + 1 + 1 + 1, 0, none⟩) (by dsimp only; omega) (.int .i64 0)) (grownBy_putObj' _ D (.deferred none)) (fun r e => by cases e; exact ⟨Nat.zero_le _, _, hK', rfl⟩)
      rw [← HTL.out, HTT.out]
      exact h5.mono (by omega)
  case stop =>
    rintro D c pre W hD ⟨⟨⟨rfl, hT⟩, he⟩, hb12, hb13⟩ hK
    have n1 : w.heap.size + 1 + 1 ≠ D := by omega
    have n2 : w.heap.size + 1 + 1 + 1 ≠ D := by omega
    clear hit
    dsimp only
    go_wp2_with fail
    refine ⟨by simp, .inl ⟨_, _, rfl, run_takeDeferred hK, ?_⟩⟩
    have hB12 := (Blk.put (o := Obj.deferred none) hb12 n1).cell
    have hB13 := (Blk.put (o := Obj.deferred none) hb13 n2).cell
    refine ⟨.tuple #[.slice none 0 0, .int .i64 14], ?_, .slice none 0 0, by rw [← HER.out, hT.out]; rfl, ?_, Ext.put he (by omega)⟩
    · simp only [results, Tryz.results54]
      go_simp
    · rw [← HTL.out, hT.out]; exact OwnBxs.nil _ _
set_option maxRecDepth 20000 in
set_option maxHeartbeats 4000000 in
theorem oUpd_no (A1 : Option Addr) (n1 c1 : Nat) (home : Int) (A2 : Option Addr) (n2 c2 : Nat) (A3 : Option Addr) (n3 c3 : Nat) (s : Sky) (ll lh el eh g : Int) (tick : Int) (A : Option Addr) (n c : Nat) (L : List Bx) (ticks : Int) (B : Option Addr) (m e : Nat) (sg : List Sight) (w : World) (hs : IsSky w A1 n1 home A2 n2 A3 n3 s) (hl : Bxs w A n L) (hr : Sights w B m sg) (E : Int)
    (h : (skyErr s = E ∧ E ≠ 0) ∨ (skyErr s = 0 ∧ driftErr ⟨⟨ll, lh⟩, ⟨el, eh⟩, g⟩ = E ∧ E ≠ 0) ∨ (skyErr s = 0 ∧ driftErr ⟨⟨ll, lh⟩, ⟨el, eh⟩, g⟩ = 0 ∧ wayErr tick ticks L = E ∧ E ≠ 0) ∨ (skyErr s = 0 ∧ driftErr ⟨⟨ll, lh⟩, ⟨el, eh⟩, g⟩ = 0 ∧ wayErr tick ticks L = 0 ∧ sgsErr s sg = E ∧ E ≠ 0)) :
    Calls Tryz.prog 54 #[.agg #[.slice A1 n1 c1, .int .i64 home, .slice A2 n2 c2, .slice A3 n3 c3], .agg #[.int .i64 ll, .int .i64 lh, .int .i64 el, .int .i64 eh, .int .i64 g], .int .i64 tick, .slice A n c, .int .i64 ticks, .slice B m e] w fun e' w' => e' = .returned (.tuple #[.slice none 0 0, .int .i64 E]) ∧ Ext w w' := by
  have HK := Lib.hid fun W (hW : Ext w W) => Check_c A1 n1 c1 home A2 n2 c2 A3 n3 c3 s W (hs.ext hW)
  have HD := Lib.hid fun W => fCheckDrift_c ll lh el eh g W
  have HY := Lib.hid fun W (hW : Ext w W) => oWay_c tick ticks A n c L W (Bxs.ext hW hl)
  have HS := Lib.hid fun W (hW : Ext w W) => oCheckSights_c A1 n1 c1 home A2 n2 c2 A3 n3 c3 s B m e sg W (hs.ext hW) (Sights.ext hW hr)
  generalize skyErr s = E1 at *
  generalize driftErr _ = E2 at *
  generalize wayErr _ _ _ = E3 at *
  generalize sgsErr _ _ = E4 at *
  clear hs hl hr
  rcases h with ⟨rfl, h5⟩ | ⟨rfl, rfl, h5⟩ | ⟨rfl, rfl, rfl, h5⟩ | ⟨rfl, rfl, rfl, rfl, h5⟩
  · go_enter Tryz.func54, Tryz.ntmps54
    go_wp2_with fail
    refine (HK.out _ ext_by).mono ?_
    rintro e w1 ⟨rfl, h1⟩
    obtain ⟨hc_w1, hf_w1, hz_w1⟩ := bcell h1; (try simp only [szA] at hz_w1); (try have := wz0 w w1); (try have := wz1 w w1); (try have := wz2 w w1); (try have := wz3 w w1); (try have := wz4 w w1)
    go_wp2_with fail
    (try simp only [Exit.inBlock, Exit.then]); apply bodyPost_ret; (focus (simp only [results, Tryz.results54]; go_simp; try rfl)); rfl
    exact ⟨rfl, ext_by⟩
  · go_enter Tryz.func54, Tryz.ntmps54
    go_wp2_with fail
    refine (HK.out _ ext_by).mono ?_
    rintro e w1 ⟨rfl, h1⟩
    obtain ⟨hc_w1, hf_w1, hz_w1⟩ := bcell h1; (try simp only [szA] at hz_w1); (try have := wz0 w w1); (try have := wz1 w w1); (try have := wz2 w w1); (try have := wz3 w w1); (try have := wz4 w w1)
    go_wp2_with fail
    refine (HD.out _).mono ?_
    rintro e w2 ⟨rfl, h2⟩
    obtain ⟨hc_w2, hf_w2, hz_w2⟩ := bcell h2; (try simp only [szA] at hz_w2); (try have := wz0 w w2); (try have := wz1 w w2); (try have := wz2 w w2); (try have := wz3 w w2); (try have := wz4 w w2)
    go_wp2_with fail
    (try simp only [Exit.inBlock, Exit.then]); apply bodyPost_ret; (focus (simp only [results, Tryz.results54]; go_simp; try rfl)); rfl
    exact ⟨rfl, ext_by⟩
  · go_enter Tryz.func54, Tryz.ntmps54
    go_wp2_with fail
    refine (HK.out _ ext_by).mono ?_
    rintro e w1 ⟨rfl, h1⟩
    obtain ⟨hc_w1, hf_w1, hz_w1⟩ := bcell h1; (try simp only [szA] at hz_w1); (try have := wz0 w w1); (try have := wz1 w w1); (try have := wz2 w w1); (try have := wz3 w w1); (try have := wz4 w w1)
    go_wp2_with fail
    refine (HD.out _).mono ?_
    rintro e w2 ⟨rfl, h2⟩
    obtain ⟨hc_w2, hf_w2, hz_w2⟩ := bcell h2; (try simp only [szA] at hz_w2); (try have := wz0 w w2); (try have := wz1 w w2); (try have := wz2 w w2); (try have := wz3 w w2); (try have := wz4 w w2)
    go_wp2_with fail
    refine (HY.out _ ext_by).mono ?_
    rintro e w3 ⟨rfl, h3⟩
    obtain ⟨hc_w3, hf_w3, hz_w3⟩ := bcell h3; (try simp only [szA] at hz_w3); (try have := wz0 w w3); (try have := wz1 w w3); (try have := wz2 w w3); (try have := wz3 w w3); (try have := wz4 w w3)
    go_wp2_with fail
    (try simp only [Exit.inBlock, Exit.then]); apply bodyPost_ret; (focus (simp only [results, Tryz.results54]; go_simp; try rfl)); rfl
    exact ⟨rfl, ext_by⟩
  · go_enter Tryz.func54, Tryz.ntmps54
    go_wp2_with fail
    refine (HK.out _ ext_by).mono ?_
    rintro e w1 ⟨rfl, h1⟩
    obtain ⟨hc_w1, hf_w1, hz_w1⟩ := bcell h1; (try simp only [szA] at hz_w1); (try have := wz0 w w1); (try have := wz1 w w1); (try have := wz2 w w1); (try have := wz3 w w1); (try have := wz4 w w1)
    go_wp2_with fail
    refine (HD.out _).mono ?_
    rintro e w2 ⟨rfl, h2⟩
    obtain ⟨hc_w2, hf_w2, hz_w2⟩ := bcell h2; (try simp only [szA] at hz_w2); (try have := wz0 w w2); (try have := wz1 w w2); (try have := wz2 w w2); (try have := wz3 w w2); (try have := wz4 w w2)
    go_wp2_with fail
    refine (HY.out _ ext_by).mono ?_
    rintro e w3 ⟨rfl, h3⟩
    obtain ⟨hc_w3, hf_w3, hz_w3⟩ := bcell h3; (try simp only [szA] at hz_w3); (try have := wz0 w w3); (try have := wz1 w w3); (try have := wz2 w w3); (try have := wz3 w w3); (try have := wz4 w w3)
    go_wp2_with fail
    refine (HS.out _ ext_by).mono ?_
    rintro e w4 ⟨rfl, h4⟩
    obtain ⟨hc_w4, hf_w4, hz_w4⟩ := bcell h4; (try simp only [szA] at hz_w4); (try have := wz0 w w4); (try have := wz1 w w4); (try have := wz2 w w4); (try have := wz3 w w4); (try have := wz4 w w4)
    go_wp2_with fail
    (try simp only [Exit.inBlock, Exit.then]); apply bodyPost_ret; (focus (simp only [results, Tryz.results54]; go_simp; try rfl)); rfl
    exact ⟨rfl, ext_by⟩
theorem upd_cases (s : Sky) (d : Drf) (tick : Int) (L : List Bx) (ticks : Int) (sg : List Sight) :
    (skyErr s = 0 ∧ driftErr d = 0 ∧ wayErr tick ticks L = 0 ∧ sgsErr s sg = 0 ∧ updErr s d tick L ticks sg = (if (updM s d sg ticks.toNat tick (filtL s tick sg L)).isSome then 0 else 14) ∧ updL s d tick L ticks sg = (updM s d sg ticks.toNat tick (filtL s tick sg L)).getD []) ∨
    (updL s d tick L ticks sg = [] ∧ ((skyErr s = updErr s d tick L ticks sg ∧ updErr s d tick L ticks sg ≠ 0) ∨ (skyErr s = 0 ∧ driftErr d = updErr s d tick L ticks sg ∧ updErr s d tick L ticks sg ≠ 0) ∨ (skyErr s = 0 ∧ driftErr d = 0 ∧ wayErr tick ticks L = updErr s d tick L ticks sg ∧ updErr s d tick L ticks sg ≠ 0) ∨ (skyErr s = 0 ∧ driftErr d = 0 ∧ wayErr tick ticks L = 0 ∧ sgsErr s sg = updErr s d tick L ticks sg ∧ updErr s d tick L ticks sg ≠ 0))) := by
  unfold updL
  obtain ⟨U, hU⟩ : ∃ U, updErr s d tick L ticks sg = U := ⟨_, rfl⟩
  rw [hU]
  unfold updErr at hU
  by_cases h1 : skyErr s = 0
  · rw [if_pos h1] at hU
    by_cases h2 : driftErr d = 0
    · rw [if_pos h2] at hU
      by_cases h3 : wayErr tick ticks L = 0
      · rw [if_pos h3] at hU
        by_cases h4 : sgsErr s sg = 0
        · rw [if_pos h4] at hU
          refine .inl ⟨h1, h2, h3, h4, hU.symm, ?_⟩
          cases hM : updM s d sg ticks.toNat tick (filtL s tick sg L) with
          | none => split <;> rfl
          | some l => rw [hM] at hU; rw [if_pos (by rw [← hU]; rfl)]
        · rw [if_neg h4] at hU
          have hn : ¬ U = 0 := fun q => h4 (hU.trans q)
          rw [if_neg hn]
          exact .inr ⟨rfl, .inr (.inr (.inr ⟨h1, h2, h3, hU, hn⟩))⟩
      · rw [if_neg h3] at hU
        have hn : ¬ U = 0 := fun q => h3 (hU.trans q)
        rw [if_neg hn]
        exact .inr ⟨rfl, .inr (.inr (.inl ⟨h1, h2, hU, hn⟩))⟩
    · rw [if_neg h2] at hU
      have hn : ¬ U = 0 := fun q => h2 (hU.trans q)
      rw [if_neg hn]
      exact .inr ⟨rfl, .inr (.inl ⟨h1, hU, hn⟩)⟩
  · rw [if_neg h1] at hU
    have hn : ¬ U = 0 := fun q => h1 (hU.trans q)
    rw [if_neg hn]
    exact .inr ⟨rfl, .inl ⟨hU, hn⟩⟩
theorem oUpdate_c (A1 : Option Addr) (n1 c1 : Nat) (home : Int) (A2 : Option Addr) (n2 c2 : Nat) (A3 : Option Addr) (n3 c3 : Nat) (s : Sky) (d : Drf) (tick : Int) (A : Option Addr) (n c : Nat) (L : List Bx) (ticks : Int) (B : Option Addr) (m e : Nat) (sg : List Sight) (w : World) (hs : IsSky w A1 n1 home A2 n2 A3 n3 s) (hl : Bxs w A n L) (hr : Sights w B m sg) :
    Calls Tryz.prog 54 #[.agg #[.slice A1 n1 c1, .int .i64 home, .slice A2 n2 c2, .slice A3 n3 c3], .agg #[.int .i64 d.light.lo, .int .i64 d.light.hi, .int .i64 d.heat.lo, .int .i64 d.heat.hi, .int .i64 d.gas], .int .i64 tick, .slice A n c, .int .i64 ticks, .slice B m e] w fun e' w' =>
      ∃ v, e' = .returned (.tuple #[v, .int .i64 (updErr s d tick L ticks sg)]) ∧ OwnBxs w.heap.size w' v (updL s d tick L ticks sg) ∧ Ext w w' := by
  rcases upd_cases s d tick L ticks sg with ⟨h1, h2, h3, h4, h5, h6⟩ | ⟨h1, h2⟩
  · rw [h5, h6]
    have ht : ((ticks.toNat : Nat) : Int) = ticks := by have := (way_ok h3).1; omega
    have := oUpd_yes A1 n1 c1 home A2 n2 c2 A3 n3 c3 s d tick A n c L ticks.toNat B m e sg w hs hl hr h1 h2 (by rw [ht]; exact h3) h4 _ rfl
    rw [ht] at this
    exact this
  · rw [h1]
    refine (oUpd_no A1 n1 c1 home A2 n2 c2 A3 n3 c3 s d.light.lo d.light.hi d.heat.lo d.heat.hi d.gas tick A n c L ticks B m e sg w hs hl hr _ h2).mono ?_
    rintro e' w' ⟨he, h⟩
    exact ⟨_, he, OwnBxs.nil _ _, h⟩
end Go.Proofs.YtfniicgoeljmdaaGreat
