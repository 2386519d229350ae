/- From a walk to a law's row: the arguments read as before, the result is true. No condition. Whether a guess misses a sight: the program and the reference. No condition. Which sight a guess misses: the program and the reference. No condition. What Miss answers: the program and the reference. No condition. What the reference's Miss answers; what counts as too great. No condition. Slices among the arguments of the sky's laws: what they read as. No condition. -/
import Derived.Test.YtfniicgoeljmdaaGreatOpen
import Derived.OpenShut
import Derived.Test.YtfniicgoeljmdaaGreatSpan
namespace Go.Proofs.YtfniicgoeljmdaaGreat
open Go.RowKit Go.ChangeShapes Go.WideShapes Go.ChangeAt

theorem own : ownKnob Tryz.prog.godebug = none := by kernel_rfl
theorem laidOut : laidOutB Tryz.prog = true := by kernel_rfl

section
variable {H : Type} {enc : TypeId × Value → H}

theorem trodAll_stays {P : Program} (hl : laidOutB P = true) {W W' : World} {sp : Nat → Bool} (hb : Ext W W') (ts : List TypeId) : ∀ (vs : List Value) (ds : List (DataW H)) (ps : List MemPlace), (∀ t ∈ ts, P.readableRec t = true ∧ t < P.types.size) →
    DataW.TrodAll enc P W 0 (fun _ => true) true ts vs ds ps → (∀ p ∈ ps, p.block < W.heap.size) → (∀ p ∈ ps, sp p.block = true) → DataW.TrodAll enc P W' 0 sp true ts vs ds ps := by
  induction ts with
  | nil =>
    intro vs ds ps _ h _ _
    obtain ⟨rfl, rfl, rfl⟩ := trodAll_nil h
    exact trodAll_mk0
  | cons t ts ih =>
    intro vs ds ps hr h hlt hs
    obtain ⟨v, vs', d, ds', p, q, rfl, rfl, rfl, h1, h2⟩ := trodAll_cons h
    have hr0 := hr t (by simp)
    exact trodAll_cons_mk (WideElems.Trod_stays hl hr0.1 hr0.2 h1 (fun x hx => hb.same (hlt x (by simp [hx]))) (fun x hx => hs x (by simp [hx])))
      (ih _ _ _ (fun x hx => hr x (by simp [hx])) h2 (fun x hx => hlt x (by simp [hx])) (fun x hx => hs x (by simp [hx])))
theorem all_read {P : Program} {ts : List TypeId} (h : (ts.all fun t => P.readableRec t && decide (t < P.types.size)) = true) : ∀ t ∈ ts, P.readableRec t = true ∧ t < P.types.size := fun t ht => by
  have := List.all_eq_true.1 h t ht
  simpa using this

/-- The last step of a law: it returned true, the world has grown, the specification says 'true, and the arguments as they were'. -/
theorem law_post {f : Func} {s : ChangeSpec} {W W' : World} {args : Array Value} {ds gs : List (DataW H)} {before : List MemPlace}
    (hr : (f.params.toList.all fun t => Tryz.prog.readableRec t && decide (t < Tryz.prog.types.size)) = true) (hres : f.resultTypes = #[4]) (hv : s.vars = [])
    (hW : DataW.Whole enc Tryz.prog f.params.toList s.vars false W args.toList ds gs before) (hs : s.fn H (ds ++ gs) = { results := [.lit (.bool true)], args := ds }) (hb : Ext W W') :
    s.post enc Tryz.prog f false true false false W args (.bool true) W' := by
  have hW' := hW
  obtain ⟨p, q, hA, hV, rfl, hfz, hnd⟩ := hW
  have hlt : ∀ x ∈ p ++ q, x.block < W.heap.size := fun x hx => hW'.lt x hx
  have hV' := hV
  rw [hv] at hV
  obtain ⟨rfl, rfl⟩ := trodVars_none hV
  rw [List.append_nil] at hlt
  refine ⟨ds, [], p ++ [], [], p, [], hW', ?_, ?_, ?_, hb.frame _, fun h => by cases h⟩
  · rw [hs, hres]
    exact trodAll_mk1 (shut_bool Tryz.underlying4 _)
  · rw [hs]
    refine trodAll_stays laidOut hb _ _ _ _ (all_read hr) hA hlt fun x hx => ?_
    simpa using hlt x hx
  · rw [hs, hv]
    rfl
end
end Go.Proofs.YtfniicgoeljmdaaGreat

namespace Go.Proofs.YtfniicgoeljmdaaGreat
open Go.RowKit

end Go.Proofs.YtfniicgoeljmdaaGreat

namespace Go.Proofs.YtfniicgoeljmdaaGreat
open Go.RowKit

theorem trk_all {s : Sky} : ∀ (l : List Sight) (m : Int), trkFrom s l m = 0 → ∀ x ∈ l, sightErr2 s x = 0
  | [], _, _, x, hx => by cases hx
  | y :: r, m, h, x, hx => by
    rw [trkFrom] at h
    by_cases h0 : sightErr2 s y = 0
    · rw [if_neg (by simp [h0])] at h
      by_cases h1 : y.tick < m
      · rw [if_pos h1] at h; cases h
      · rw [if_neg h1] at h
        rcases List.mem_cons.1 hx with rfl | hx
        · exact h0
        · exact trk_all r _ h x hx
    · rw [if_pos h0] at h; exact absurd h h0
theorem trk_ok {s : Sky} {l : List Sight} (h : trkErr s l = 0) : ∀ x ∈ l, sightErr2 s x = 0 := by
  unfold trkErr at h
  by_cases h0 : skyErr s = 0
  · rw [if_neg (by simp [h0])] at h
    by_cases h1 : l.length = 0
    · rw [if_pos h1] at h; cases h
    · rw [if_neg h1] at h
      by_cases h2 : 64 < l.length
      · rw [if_pos h2] at h; cases h
      · rw [if_neg h2] at h; exact trk_all l 0 h
  · rw [if_pos h0] at h; exact absurd h h0


set_option maxHeartbeats 400000 in
theorem idxSight_c (A : Option Addr) (n c : Nat) (l : List Sight) (fid : Nat) (cap : Array Value) (p : Sight → Bool) (w : World) (hl : Sights w A n l)
    (hcall : ∀ (xs : Array Value) (W : World), (callFunc fid xs).run Tryz.prog W = .ok (.enter fid xs) W)
    (hf : ∀ x ∈ l, ∀ W, Ext w W → Calls Tryz.prog fid (#[.agg #[.int .i64 x.kind, .int .i64 x.station, .int .i64 x.catalog, .int .i64 x.tick, .int .i64 x.dx, .int .i64 x.dy, .int .i64 x.err, .int .i64 x.lo, .int .i64 x.hi]] ++ cap) W fun e w' => e = .returned (.bool (p x)) ∧ Ext W w') :
    Calls Tryz.prog 173 #[.slice A n c, .func (.func fid) #[] cap] w fun e w' => e = .returned (.int .i64 (idxFrom p l 0)) ∧ Ext w w' := by
  have hn := hl.le
  have Hf := Lib.hid hf
  clear hf
  go_enter Tryz.func173, Tryz.ntmps173
  go_wp2_with fail
  go_loopw [8] (fun i wr => ∃ k : Nat, k ≤ n ∧ i = .int .i64 k ∧ Hid (idxFrom p (l.drop k) k = idxFrom p l 0) ∧ Ext w wr) (fun i _ => n - (intOf i).toNat)
  case atStart => exact ⟨0, Nat.zero_le _, rfl, rfl, Ext.refl _⟩
  case round =>
    obtain ⟨k, hk, rfl, HI, hb⟩ := hrel
    by_cases hlt : k < n
    · obtain ⟨b, off, x, rfl, HD, hxm, hx⟩ := hl.one hlt
      obtain ⟨hx0, hx1, hx2, hx3, hx4, hx5, hx6, hx7, hx8⟩ := sightAt.ext hb hx
      go_wp2_with fail
      refine (Hf.out x hxm _ hb).mono ?_
      rintro e w1 ⟨rfl, h1⟩
      cases hp : p x
      · go_wp2_with fail
        go_roundw
        case rel => exact ⟨k + 1, by omega, by go_num, by have := HI.out; rw [HD.out] at this; simpa [Hid, idxFrom, hp] using this, hb.trans h1⟩
        case measure => simp [intOf]; omega
      · go_wp2_with fail
        go_ret
        exact ⟨ret_i (by have := HI.out; rw [HD.out] at this; simpa [idxFrom, hp] using this), hb.trans h1⟩
    · have : k = l.length := by have := hl.len; omega
      subst this
      go_wp2_with fail
      go_ret
      refine ⟨ret_i ?_, hb⟩
      have := HI.out
      simpa [idxFrom] using this


/-- The number of the first sight that a guess misses; -1 if there is none. -/
def missFrom (s : Sky) (g : St) (t0 : Int) (l : List Sight) (k : Nat) : Int := idxFrom (fun x => !fitsM s x g t0) l k

end Go.Proofs.YtfniicgoeljmdaaGreat

namespace Go.Proofs.YtfniicgoeljmdaaGreat
open Go.RowKit

def missM (s : Sky) (l : List Sight) (g : St) (t0 : Int) : Int :=
  if trkErr s l ≠ 0 ∨ gOK g = false ∨ within t0 0 1073741824 = false then -2 else missFrom s g t0 l 0

end Go.Proofs.YtfniicgoeljmdaaGreat

namespace Go.Proofs.YtfniicgoeljmdaaGreat
open Go.RowKit

/-- Lists of sights, in memory. -/
def trkAt (w : World) (p : List Sight) (b o : Nat) : Prop := ∃ A n c, w.cell? ⟨b, o, none⟩ = some (.slice A n c) ∧ Sights w A n p
abbrev Trks (w : World) (A : Option Addr) (n : Nat) (l : List (List Sight)) : Prop := SlR 1 (trkAt w) A n l
theorem trkAt.ext {w w' : World} (e : Ext w w') {p : List Sight} {b o : Nat} (h : trkAt w p b o) : trkAt w' p b o := by
  obtain ⟨A, n, c, h1, h2⟩ := h
  exact ⟨A, n, c, e.cell h1, Sights.ext e h2⟩
theorem Trks.ext {w w' : World} (e : Ext w w') {A n l} (h : Trks w A n l) : Trks w' A n l := SlR.mono h fun _ _ _ _ => trkAt.ext e
def bigM (s : Sky) (n : Nat) (l : List (List Sight)) : Bool := bigSky s || decide (66 < n) || decide (18 < l.length) || l.any fun x => decide (66 < x.length)

end Go.Proofs.YtfniicgoeljmdaaGreat

namespace Go.Proofs.YtfniicgoeljmdaaGreat
open Go.RowKit Go.ChangeShapes Go.WideShapes Go.ChangeAt

section
variable {H : Type} {enc : TypeId × Value → H} {w : World} {base : Nat}
theorem open_sights {fuel : Nat} {cs : List Value} {x : DataW H × List MemPlace} (h : DataW.trod enc Tryz.prog w base (fun _ => true) true fuel 70 cs = some x) : ∃ A n c l, cs = [.slice A n c] ∧ Sights w A n l :=
  open_sl (by omega) Tryz.underlying70 cells_sight elt_sight h
theorem open_states {fuel : Nat} {cs : List Value} {x : DataW H × List MemPlace} (h : DataW.trod enc Tryz.prog w base (fun _ => true) true fuel 31 cs = some x) : ∃ A n c l, cs = [.slice A n c] ∧ Sts w A n l :=
  open_sl (by omega) Tryz.underlying31 cells_state elt_state h
theorem cells_sights : Tryz.prog.cellsOf 70 = 1 := by kernel_rfl
theorem elt_sights (n b o : Nat) (cs : List Value) (y : DataW H × List MemPlace) (hc : ∀ i, i < 1 → w.cell? ⟨b, o + i, none⟩ = cs[i]?) (_ : cs.length = 1) (h : DataW.trod enc Tryz.prog w base (fun _ => true) true n 70 cs = some y) : ∃ x, trkAt w x b o := by
  obtain ⟨A, m, c, l, rfl, hl⟩ := open_sights h
  exact ⟨l, A, m, c, hc 0 (by omega), hl⟩
instance : Inhabited (List Sight) := ⟨[]⟩
def intAt (w : World) (p : Int) (b o : Nat) : Prop := w.cell? ⟨b, o, none⟩ = some (.int .i64 p)
abbrev Ints (w : World) (A : Option Addr) (n : Nat) (l : List Int) : Prop := SlR 1 (intAt w) A n l
theorem Ints.ext {w w' : World} (e : Ext w w') {A n l} (h : Ints w A n l) : Ints w' A n l := SlR.mono h fun _ _ _ _ hx => e.cell hx
theorem elt_int (n b o : Nat) (cs : List Value) (y : DataW H × List MemPlace) (hc : ∀ i, i < 1 → w.cell? ⟨b, o + i, none⟩ = cs[i]?) (_ : cs.length = 1) (h : DataW.trod enc Tryz.prog w base (fun _ => true) true n 3 cs = some y) : ∃ x, intAt w x b o := by
  obtain ⟨p, rfl⟩ := open_i64 Tryz.underlying3 h
  exact ⟨p, hc 0 (by omega)⟩
theorem open_ints {fuel : Nat} {cs : List Value} {x : DataW H × List MemPlace} (h : DataW.trod enc Tryz.prog w base (fun _ => true) true fuel 48 cs = some x) : ∃ A n c l, cs = [.slice A n c] ∧ Ints w A n l :=
  open_sl (by omega) Tryz.underlying48 cells_int elt_int h
end
end Go.Proofs.YtfniicgoeljmdaaGreat
