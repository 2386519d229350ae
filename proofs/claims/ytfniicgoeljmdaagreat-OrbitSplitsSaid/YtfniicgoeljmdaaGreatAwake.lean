/- The four pairs of ends of two spans, handed out: the program. No condition. The corners of an area, handed out: the program. No condition. Arguments that can be read, opened: structs of integers, slices of structs, skies. No condition. From a walk to a law's row: the arguments read as before, the result is true. No condition. The chapter's examples that every law of the sky asks; what counts as too great a sky. -/
import Derived.Test.YtfniicgoeljmdaaGreatSpanLaw
import Derived.Test.YtfniicgoeljmdaaGreatFind
import Derived.Test.YtfniicgoeljmdaaGreatAgree
import Derived.Test.YtfniicgoeljmdaaGreatBase
import Derived.ProofKit
import Derived.Deep.Slices
import Derived.Deep.Fields
import Derived.ChangeSame
import Derived.OpenShut
namespace Go.Proofs.YtfniicgoeljmdaaGreat
open Go.RowKit Go.Shelf
attribute [local go_sem] Oper.semAt_some

def pairE (p : Int × Int) : Array Value := #[.int .i64 p.1, .int .i64 p.2]
abbrev pairsV (al ah bl bh : Int) : List (Int × Int) := [(al, bl), (al, bh), (ah, bl), (ah, bh)]

set_option maxHeartbeats 1000000 in
theorem spPairs_c (al ah bl bh : Int) (w : World) :
    Calls Tryz.prog 277 #[.agg #[.int .i64 al, .int .i64 ah], .agg #[.int .i64 bl, .int .i64 bh]] w fun e w' => ∃ b, e = .returned (.func (.func 279) #[] #[.pointer (some ⟨b, 0, none⟩)]) ∧ Ext w w' ∧ w.heap.size ≤ b ∧ Blk w' b 287 #[.int .i64 al, .int .i64 ah, .int .i64 bl, .int .i64 bh] := by
  go_enter Tryz.func277, Tryz.ntmps277
  go_wp2_with fail
  go_ret
  exact ⟨_, rfl, by (repeat' (first | exact Ext.refl _ | assumption | apply Ext.alloc | apply Ext.drew | refine Ext.set ?_ (by dsimp only; omega) _ | refine Ext.trans ?_ (by assumption))), by omega, Blk.newAt (by simp)⟩

set_option maxRecDepth 100000 in
set_option maxHeartbeats 2000000 in
theorem spPairs_iter (g : Nat) (t : TypeId) (al ah bl bh : Int) (nb : Nat) (w : World) (hB : Blk w g t #[.int .i64 al, .int .i64 ah, .int .i64 bl, .int .i64 bh]) :
    IterOf Tryz.prog 279 #[.pointer (some ⟨g, 0, none⟩)] pairE nb [g] (pairsV al ah bl bh) w := by
  intro n l J Jx W hW hJ hJx hY h0
  have hBW := hB.ext hW
  have hY' : ∀ (pre : List { x // x ∈ pairsV al ah bl bh }) (x : { x // x ∈ pairsV al ah bl bh }) W1, J pre W1 → pre.length < 4 → YieldAt Fence.wide (n - 1) Tryz.prog l #[.int .i64 x.1.1, .int .i64 x.1.2] W1 fun e W' =>
      (e = .returned (.bool true) ∧ J (pre ++ [x]) W' ∧ KpX nb [g] W1 W') ∨ (e = .returned (.bool false) ∧ Jx (pre ++ [x]) W') := fun pre x W1 h1 h2 => hY pre x W1 h1 h2
  have HY := Lib.hid hY'
  clear hY hY' hB
  refine callsIn_of_wp Tryz.func279 rfl trivial ?_
  simp only [Tryz.ntmps279, List.size_toArray, List.length_cons, List.length_nil, Nat.reduceAdd, Nat.reduceSub, Array.replicate_succ, Array.replicate_zero, List.push_toArray, List.append_toArray, List.nil_append, List.cons_append]
  have hc := hBW.cell
  have hl := hBW.lt
  have HB := Lib.hid hBW
  have H0 := Lib.hid h0
  clear hBW h0
  gi_wp2
  gi_loopw [9] (fun i wr => ∃ (k : Nat) (pre : List { x // x ∈ pairsV al ah bl bh }), k ≤ 2 ∧ i = .int .i64 k ∧ Hid (pre.map Subtype.val = (pairsV al ah bl bh).take (2 * k)) ∧ Hid (J pre wr) ∧ Hid (Blk wr g t #[.int .i64 al, .int .i64 ah, .int .i64 bl, .int .i64 bh])) (fun i _ => 2 - (intOf i).toNat)
  case atStart => exact ⟨0, [], Nat.zero_le _, rfl, rfl, H0.out, HB.out⟩
  case round =>
    obtain ⟨k, pre, hk, rfl, HP, HJ1, HB1⟩ := hrel
    have hc1 := HB1.out.cell
    have hl1 := HB1.out.lt
    by_cases hk2 : k < 2
    · obtain ⟨X, hX⟩ : ∃ X, (k = 0 ∧ X = al) ∨ (k = 1 ∧ X = ah) := by
        by_cases h : k = 0
        · exact ⟨al, .inl ⟨h, rfl⟩⟩
        · exact ⟨ah, .inr ⟨by omega, rfl⟩⟩
      have ixk : ∀ W, (Instr.index 239 (.agg #[.int .i64 al, .int .i64 ah]) (.int .i64 (k : Int))).run Tryz.prog W = .ok (.int .i64 X) W := by
        rcases hX with ⟨rfl, rfl⟩ | ⟨rfl, rfl⟩ <;> intro W <;> kernel_rfl
      have HX := Lib.hid hX
      have hkb : decide ((k : Int) < 2) = true := by simp; omega
      clear hX
      gi_wp2
      gi_loopw [14] (fun j wr => ∃ (m : Nat) (pr : List { x // x ∈ pairsV al ah bl bh }), m ≤ 2 ∧ j = .int .i64 m ∧ Hid (pr.map Subtype.val = (pairsV al ah bl bh).take (2 * k + m)) ∧ Hid (J pr wr) ∧ Hid (Blk wr g t #[.int .i64 al, .int .i64 ah, .int .i64 bl, .int .i64 bh])) (fun j _ => 2 - (intOf j).toNat)
      case atStart => exact ⟨0, pre, Nat.zero_le _, rfl, HP.out, HJ1.out, HB1.out⟩
      case round =>
        obtain ⟨m, pr, hm, rfl, HP2, HJ2, HB2⟩ := hrel
        have hc2 := HB2.out.cell
        have hl2 := HB2.out.lt
        by_cases hm2 : m < 2
        · obtain ⟨Y, hYy⟩ : ∃ Y, (m = 0 ∧ Y = bl) ∨ (m = 1 ∧ Y = bh) := by
            by_cases h : m = 0
            · exact ⟨bl, .inl ⟨h, rfl⟩⟩
            · exact ⟨bh, .inr ⟨by omega, rfl⟩⟩
          have iym : ∀ W, (Instr.index 239 (.agg #[.int .i64 bl, .int .i64 bh]) (.int .i64 (m : Int))).run Tryz.prog W = .ok (.int .i64 Y) W := by
            rcases hYy with ⟨rfl, rfl⟩ | ⟨rfl, rfl⟩ <;> intro W <;> kernel_rfl
          have hmem : (X, Y) ∈ pairsV al ah bl bh := by
            rcases HX.out with ⟨_, rfl⟩ | ⟨_, rfl⟩ <;> rcases hYy with ⟨_, rfl⟩ | ⟨_, rfl⟩ <;> simp [pairsV]
          have hstep : (pairsV al ah bl bh).take (2 * k + (m + 1)) = (pairsV al ah bl bh).take (2 * k + m) ++ [(X, Y)] := by
            rcases HX.out with ⟨rfl, rfl⟩ | ⟨rfl, rfl⟩ <;> rcases hYy with ⟨rfl, rfl⟩ | ⟨rfl, rfl⟩ <;> rfl
          have Hstep := Lib.hid hstep
          clear hstep hYy
          obtain ⟨fn, tmps, assign, body, hy, hR⟩ := HY.out pr ⟨(X, Y), hmem⟩ wr HJ2.out (by have h3 := congrArg List.length HP2.out; rw [List.length_map, List.length_take] at h3; omega)
          dsimp only at hy
          gi_wp2
          refine ⟨fun h => (by cases h), hR.mono ?_⟩
          rintro e W3 (⟨rfl, hJ3, hk3⟩ | ⟨rfl, hJx3⟩)
          · have HB3 := Lib.hid (hk3.2 g (by simp) _ _ HB2.out)
            have HJ3 := Lib.hid hJ3
            clear hk3 hJ3
            gi_wp2
            go_roundw
            case rel => exact ⟨m + 1, pr ++ [⟨(X, Y), hmem⟩], by omega, by go_num, Lib.hid (by rw [List.map_append, HP2.out, Hstep.out]; rfl), HJ3, HB3⟩
            case measure => simp [intOf]; omega
          · gi_wp2
            refine bodyPost_ret (results_none rfl _ _ _) rfl ?_
            exact ⟨⟨_, rfl⟩, .inr ⟨pr ++ [⟨(X, Y), hmem⟩], by rw [List.map_append, HP2.out]; exact (Hstep.out ▸ List.take_prefix (2 * k + (m + 1)) (pairsV al ah bl bh)), hJx3⟩⟩
        · obtain rfl : m = 2 := by omega
          gi_wp2
          go_roundw
          case rel => exact ⟨k + 1, pr, by omega, by go_num, HP2.out, HJ2.out, HB2.out⟩
          case measure => simp [intOf]; omega
    · obtain rfl : k = 2 := by omega
      gi_wp2
      go_end0
      exact ⟨⟨_, rfl⟩, .inl ⟨pre, HP.out, HJ1.out⟩⟩
end Go.Proofs.YtfniicgoeljmdaaGreat

namespace Go.Proofs.YtfniicgoeljmdaaGreat
open Go.RowKit Go.Shelf
attribute [local go_sem] Oper.semAt_some

end Go.Proofs.YtfniicgoeljmdaaGreat

namespace Go.Proofs.YtfniicgoeljmdaaGreat
open Go.RowKit Go.ChangeShapes Go.WideShapes Go.Deep

section
variable {H : Type} {enc : TypeId × Value → H} {w : World} {base : Nat} {spare : Nat → Bool} {held : Bool}

theorem open_i64 {t : TypeId} {fuel : Nat} {cs : List Value} {x : DataW H × List MemPlace} (ht : Tryz.prog.underlying t = some (.int .i64)) (h : DataW.trod enc Tryz.prog w base spare held fuel t cs = some x) : ∃ n : Int, cs = [.int .i64 n] := by
  obtain ⟨n, hn, _⟩ := DataW.trod_int ht h
  exact ⟨n, hn⟩

/-- Field i of a struct: its cells can be read. -/
theorem open_field {t : TypeId} {fs : Array Field} {fuel : Nat} {cs : List Value} {x : DataW H × List MemPlace} (ht : Tryz.prog.underlying t = some (.struct fs)) (h : DataW.trod enc Tryz.prog w base spare held fuel t cs = some x) :
    cs.length = Tryz.prog.cellsOf t ∧ ∃ n, ∀ (i ty off k : Nat), (fs[i]?).map (fun f => (f.type, f.offset)) = some (ty, off) → Tryz.prog.cellsOf ty = k → ∃ y, DataW.trod enc Tryz.prog w base spare held n ty ((cs.drop off).take k) = some y := by
  obtain ⟨xs, n, _, _, hl, hx, hf⟩ := DataW.trod_struct ht h
  refine ⟨hl, n, fun i ty off k hi hk => ?_⟩
  obtain ⟨f, hi2, hft⟩ := Option.map_eq_some_iff.1 hi
  simp only [Prod.mk.injEq] at hft
  obtain ⟨rfl, rfl⟩ := hft
  subst hk
  have h1 := hf i f hi2
  have : i < xs.length := by rw [hx]; exact (Array.getElem?_eq_some_iff.1 hi2).1
  rw [List.getElem?_eq_getElem this] at h1
  exact ⟨_, h1⟩

theorem len2 {α : Type} {cs : List α} (h : cs.length = 2) : ∃ a0 a1, cs = [a0, a1] := by
  match cs, h with
  | [a0, a1], _ => exact ⟨a0, a1, rfl⟩
theorem cells_int64 : Tryz.prog.cellsOf 2 = 1 := by kernel_rfl
theorem cells_span : Tryz.prog.cellsOf 26 = 2 := by kernel_rfl
theorem open_span {fuel : Nat} {cs : List Value} {x : DataW H × List MemPlace} (h : DataW.trod enc Tryz.prog w base spare held fuel 26 cs = some x) : ∃ p : Vec, cs = [.int .i64 p.x, .int .i64 p.y] := by
  obtain ⟨hl, n, hf⟩ := open_field Tryz.underlying26 h
  obtain ⟨a0, a1, rfl⟩ := len2 (hl.trans cells_span)
  obtain ⟨_, h0⟩ := hf 0 _ 0 _ rfl cells_int64
  obtain ⟨b0, e0⟩ := open_i64 Tryz.underlying2 (show DataW.trod enc Tryz.prog w base spare held n 2 [a0] = some _ from h0)
  obtain rfl : a0 = .int .i64 b0 := by injection e0
  obtain ⟨_, h1⟩ := hf 1 _ 1 _ rfl cells_int64
  obtain ⟨b1, e1⟩ := open_i64 Tryz.underlying2 (show DataW.trod enc Tryz.prog w base spare held n 2 [a1] = some _ from h1)
  obtain rfl : a1 = .int .i64 b1 := by injection e1
  exact ⟨⟨b0, b1⟩, rfl⟩
theorem add_none (b o n : Nat) : (⟨b, o, none⟩ : Addr).add n = ⟨b, o + n, none⟩ := by
  unfold Addr.add
  split
  · rename_i h; subst h; rfl
  · rfl
instance : Inhabited Vec := ⟨⟨0, 0⟩⟩
instance : Inhabited Stn := ⟨⟨0, default⟩⟩
instance : Inhabited Cat := ⟨⟨0, 0, 0⟩⟩
instance : Inhabited St := ⟨⟨0, 0, 0, 0⟩⟩
instance : Inhabited Sight := ⟨⟨0, 0, 0, 0, 0, 0, 0, 0, 0⟩⟩
instance : Inhabited Body := ⟨⟨0, 0, []⟩⟩
end
end Go.Proofs.YtfniicgoeljmdaaGreat

namespace Go.Proofs.YtfniicgoeljmdaaGreat
open Go.RowKit Go.ChangeShapes Go.WideShapes Go.ChangeAt

theorem own : ownKnob Tryz.prog.godebug = none := by kernel_rfl
theorem laidOut : laidOutB Tryz.prog = true := by kernel_rfl

section
variable {H : Type} {enc : TypeId × Value → H}

theorem trodAll_stays {P : Program} (hl : laidOutB P = true) {W W' : World} {sp : Nat → Bool} (hb : Ext W W') (ts : List TypeId) : ∀ (vs : List Value) (ds : List (DataW H)) (ps : List MemPlace), (∀ t ∈ ts, P.readableRec t = true ∧ t < P.types.size) →
    DataW.TrodAll enc P W 0 (fun _ => true) true ts vs ds ps → (∀ p ∈ ps, p.block < W.heap.size) → (∀ p ∈ ps, sp p.block = true) → DataW.TrodAll enc P W' 0 sp true ts vs ds ps := by
  induction ts with
  | nil =>
    intro vs ds ps _ h _ _
    obtain ⟨rfl, rfl, rfl⟩ := trodAll_nil h
    exact trodAll_mk0
  | cons t ts ih =>
    intro vs ds ps hr h hlt hs
    obtain ⟨v, vs', d, ds', p, q, rfl, rfl, rfl, h1, h2⟩ := trodAll_cons h
    have hr0 := hr t (by simp)
    exact trodAll_cons_mk (WideElems.Trod_stays hl hr0.1 hr0.2 h1 (fun x hx => hb.same (hlt x (by simp [hx]))) (fun x hx => hs x (by simp [hx])))
      (ih _ _ _ (fun x hx => hr x (by simp [hx])) h2 (fun x hx => hlt x (by simp [hx])) (fun x hx => hs x (by simp [hx])))
theorem all_read {P : Program} {ts : List TypeId} (h : (ts.all fun t => P.readableRec t && decide (t < P.types.size)) = true) : ∀ t ∈ ts, P.readableRec t = true ∧ t < P.types.size := fun t ht => by
  have := List.all_eq_true.1 h t ht
  simpa using this

/-- The last step of a law: it returned true, the world has grown, the specification says 'true, and the arguments as they were'. -/
theorem law_post {f : Func} {s : ChangeSpec} {W W' : World} {args : Array Value} {ds gs : List (DataW H)} {before : List MemPlace}
    (hr : (f.params.toList.all fun t => Tryz.prog.readableRec t && decide (t < Tryz.prog.types.size)) = true) (hres : f.resultTypes = #[4]) (hv : s.vars = [])
    (hW : DataW.Whole enc Tryz.prog f.params.toList s.vars false W args.toList ds gs before) (hs : s.fn H (ds ++ gs) = { results := [.lit (.bool true)], args := ds }) (hb : Ext W W') :
    s.post enc Tryz.prog f false true false false W args (.bool true) W' := by
  have hW' := hW
  obtain ⟨p, q, hA, hV, rfl, hfz, hnd⟩ := hW
  have hlt : ∀ x ∈ p ++ q, x.block < W.heap.size := fun x hx => hW'.lt x hx
  have hV' := hV
  rw [hv] at hV
  obtain ⟨rfl, rfl⟩ := trodVars_none hV
  rw [List.append_nil] at hlt
  refine ⟨ds, [], p ++ [], [], p, [], hW', ?_, ?_, ?_, hb.frame _, fun h => by cases h⟩
  · rw [hs, hres]
    exact trodAll_mk1 (shut_bool Tryz.underlying4 _)
  · rw [hs]
    refine trodAll_stays laidOut hb _ _ _ _ (all_read hr) hA hlt fun x hx => ?_
    simpa using hlt x hx
  · rw [hs, hv]
    rfl
end
end Go.Proofs.YtfniicgoeljmdaaGreat

namespace Go.Proofs.YtfniicgoeljmdaaGreat
open Go.RowKit

theorem Blk.alloc {w : World} {g : Nat} {t : TypeId} {cs : Array Value} (h : Blk w g t cs) (o : Obj) : Blk (w.alloc o) g t cs := Blk.ext h (Ext.alloc0 _ _)
theorem two {α : Type} {a b : α} {P : α → Nat → Prop} (h0 : P a 0) (h1 : P b 1) : ∀ k (h : k < [a, b].length), P ([a, b][k]) k
  | 0, _ => h0
  | 1, _ => h1
end Go.Proofs.YtfniicgoeljmdaaGreat
