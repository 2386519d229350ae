/- A set after ticks with sights, or which error: the program. No condition. -/
import Derived.Test.YtfniicgoeljmdaaGreatUpdate
import Derived.Test.YtfniicgoeljmdaaGreatProp
import Derived.Test.YtfniicgoeljmdaaGreatPropagate
namespace Go.Proofs.YtfniicgoeljmdaaGreat
open Go.RowKit Go.Shelf
attribute [local go_sem] Oper.semAt_some

def updErr (s : Sky) (d : Drf) (tick : Int) (L : List Bx) (ticks : Int) (sg : List Sight) : Int :=
  if skyErr s = 0 then (if driftErr d = 0 then (if wayErr tick ticks L = 0 then (if sgsErr s sg = 0 then (if (updM s d sg ticks.toNat tick (filtL s tick sg L)).isSome then 0 else 14) else sgsErr s sg) else wayErr tick ticks L) else driftErr d) else skyErr s
def updL (s : Sky) (d : Drf) (tick : Int) (L : List Bx) (ticks : Int) (sg : List Sight) : List Bx :=
  if updErr s d tick L ticks sg = 0 then (updM s d sg ticks.toNat tick (filtL s tick sg L)).getD [] else []
theorem KpB.setAt {nb b : Nat} (h : nb ≤ b) (W : World) (i : Nat) (u : Value) : KpB nb b W (W.setCell ⟨b, i, none⟩ u) :=
  ⟨(Below.refl _ _).setCell h _, fun g _ _ _ hg hc => (Below.heap_setCell W _ u g (fun e => hg e)).trans hc⟩
theorem own_low {base : Nat} {W : World} {v : Value} {L : List Bx} (ho : OwnBxs base W v L) {p : Addr} (hp : p.block < base) (u : Value) : OwnBxs base (W.setCell p u) v L := by
  refine ⟨ho.1, ?_⟩
  rcases ho.2 with hn | ⟨g, cap, cur, rfl, hbg, hg, rest⟩
  · exact .inl hn
  · exact .inr ⟨g, cap, cur, rfl, hbg, (Below.heap_setCell W p u g (by omega)).trans hg, rest⟩
def lastV {T : Option (List Bx)} (pre : List (UpV T)) : Value := (pre.getLast?.map fun x => Value.slice x.A x.n x.c).getD (.slice none 0 0)
theorem lastV_app {T : Option (List Bx)} (pre : List (UpV T)) (x : UpV T) : lastV (pre ++ [x]) = .slice x.A x.n x.c := by simp [lastV]
def allYes {T : Option (List Bx)} (pre : List (UpV T)) : Prop := ∀ x ∈ pre, x.ok = true
theorem sky_wd {s : Sky} {d : Drf} (h1 : skyErr s = 0) (h2 : driftErr d = 0) : wdErr s.world.bodies s.world.home d = 0 := by
  refine wdErr_ok.2 ⟨?_, h2⟩
  unfold skyErr at h1
  by_cases h : wldErr s.world = 0
  · exact h
  · rw [if_pos h] at h1; exact absurd h1 h
set_option maxRecDepth 100000 in
set_option maxHeartbeats 4000000 in
theorem oUpd_yes (A1 : Option Addr) (n1 c1 : Nat) (home : Int) (A2 : Option Addr) (n2 c2 : Nat) (A3 : Option Addr) (n3 c3 : Nat) (s : Sky) (d : Drf) (tick : Int) (A : Option Addr) (n c : Nat) (L : List Bx) (N : Nat) (B : Option Addr) (m e : Nat) (sg : List Sight) (w : World) (hs : IsSky w A1 n1 home A2 n2 A3 n3 s) (hl : Bxs w A n L) (hr : Sights w B m sg)
    (h1 : skyErr s = 0) (h2 : driftErr d = 0) (h3 : wayErr tick N L = 0) (h4 : sgsErr s sg = 0) (T : Option (List Bx)) (hT : updM s d sg N tick (filtL s tick sg L) = T) :
    Calls Tryz.prog 54 #[.agg #[.slice A1 n1 c1, .int .i64 home, .slice A2 n2 c2, .slice A3 n3 c3], .agg #[.int .i64 d.light.lo, .int .i64 d.light.hi, .int .i64 d.heat.lo, .int .i64 d.heat.hi, .int .i64 d.gas], .int .i64 tick, .slice A n c, .int .i64 (N : Int), .slice B m e] w fun e' w' =>
      ∃ v, e' = .returned (.tuple #[v, .int .i64 (if T.isSome then 0 else 14)]) ∧ OwnBxs w.heap.size w' v (T.getD []) ∧ Ext w w' := by
  obtain ⟨⟨hk0, hk1⟩, hk2, hk3⟩ := way_ok h3
  obtain ⟨hs1, hs2⟩ := set_ok hk3
  have HK := Lib.hid fun W (hW : Ext w W) => Check_c A1 n1 c1 home A2 n2 c2 A3 n3 c3 s W (hs.ext hW)
  rw [h1] at HK
  have HD := Lib.hid fun W => fCheckDrift_c d.light.lo d.light.hi d.heat.lo d.heat.hi d.gas W
  have hd : (⟨⟨d.light.lo, d.light.hi⟩, ⟨d.heat.lo, d.heat.hi⟩, d.gas⟩ : Drf) = d := rfl
  rw [hd, h2] at HD
  have HY := Lib.hid fun W (hW : Ext w W) => oWay_c tick N A n c L W (Bxs.ext hW hl)
  rw [h3] at HY
  have HS := Lib.hid fun W (hW : Ext w W) => oCheckSights_c A1 n1 c1 home A2 n2 c2 A3 n3 c3 s B m e sg W (hs.ext hW) (Sights.ext hW hr)
  rw [h4] at HS
  have HU := Lib.hid fun W => oUpdates_c A1 n1 c1 home A2 n2 c2 A3 n3 c3 d.light.lo d.light.hi d.heat.lo d.heat.hi d.gas tick A n c (N : Int) B m e W
  have HIT := Lib.hid fun g1 g2 g3 g4 g5 g6 b18 W (hE : Ext w W) => oUpd_iter g1 g2 g3 g4 g5 g6 b18 A1 n1 c1 home A2 n2 c2 A3 n3 c3 s d tick A n c L B m e sg N w W hE hs hl hr (sky_wd h1 h2) (by omega) (by omega) hs1 hs2
  obtain ⟨⟨ll, lh⟩, ⟨hl', hh⟩, g⟩ := d
  dsimp only at HD HU HIT ⊢
  have HT := Lib.hid hT
  obtain ⟨Er, hEr⟩ : ∃ q : Int, (if T.isSome then 0 else 14) = q := ⟨_, rfl⟩
  obtain ⟨TL, hTL⟩ : ∃ q, T.getD [] = q := ⟨_, rfl⟩
  rw [hEr, hTL]
  have HER := Lib.hid hEr
  have HTL := Lib.hid hTL
  clear hs hl hr h1 h2 h3 h4 hd hk0 hk1 hk2 hk3 hs1 hs2 hT hEr hTL
  refine (callsIn_wide (n := 6)).1 (callsIn_of_wp_marks Tryz.func54 rfl trivial ?_)
  simp only [Tryz.ntmps54, List.size_toArray, List.length_cons, List.length_nil, Nat.reduceAdd, Nat.reduceSub, Array.replicate_succ, Array.replicate_zero, List.push_toArray, List.append_toArray, List.nil_append, List.cons_append]
  refine wpIn_wide.2 ?_
  go_wp2_with fail
  refine (HK.out _ ext_by).mono ?_
  rintro e1 V1 ⟨rfl, hV1⟩
  have B7 : Blk V1 (w.heap.size + 1) 28 #[.int .i64 ll, .int .i64 lh, .int .i64 hl', .int .i64 hh, .int .i64 g] := (((Blk.newAt (by simp)).alloc _).alloc _).ext hV1
  have B6 : Blk V1 w.heap.size 53 #[.slice A1 n1 c1, .int .i64 home, .slice A2 n2 c2, .slice A3 n3 c3] := ((((Blk.newAt rfl).alloc _).alloc _).alloc _).ext hV1
  have B12 : Blk V1 (w.heap.size + 1 + 1) 39 #[.slice none 0 0] := ((Blk.newAt (by simp)).alloc _).ext hV1
  have B13 : Blk V1 (w.heap.size + 1 + 1 + 1) 41 #[.int .i64 0] := (Blk.newAt (by simp)).ext hV1
  have E : Ext w V1 := ext_by
  clear hV1 HK
  have c_B6 := B6.cell; have f_B6 := B6.frozen; have l_B6 := B6.lt; have c_B7 := B7.cell; have f_B7 := B7.frozen; have l_B7 := B7.lt; have c_B12 := B12.cell; have f_B12 := B12.frozen; have l_B12 := B12.lt; have c_B13 := B13.cell; have f_B13 := B13.frozen; have l_B13 := B13.lt
  go_wp2_with fail
  refine (HD.out _).mono ?_
  rintro e V2 ⟨rfl, hV2⟩
  clear c_B6 f_B6 l_B6
  replace B6 := B6.ext hV2
  clear c_B7 f_B7 l_B7
  replace B7 := B7.ext hV2
  clear c_B12 f_B12 l_B12
  replace B12 := B12.ext hV2
  clear c_B13 f_B13 l_B13
  replace B13 := B13.ext hV2
  replace E : Ext w V2 := Ext.trans ext_by hV2
  clear hV2
  have c_B6 := B6.cell; have f_B6 := B6.frozen; have l_B6 := B6.lt; have c_B7 := B7.cell; have f_B7 := B7.frozen; have l_B7 := B7.lt; have c_B12 := B12.cell; have f_B12 := B12.frozen; have l_B12 := B12.lt; have c_B13 := B13.cell; have f_B13 := B13.frozen; have l_B13 := B13.lt
  go_wp2_with fail
  refine (HY.out _ ext_by).mono ?_
  rintro e V3 ⟨rfl, hV3⟩
  clear c_B6 f_B6 l_B6
  replace B6 := B6.ext hV3
  clear c_B7 f_B7 l_B7
  replace B7 := B7.ext hV3
  clear c_B12 f_B12 l_B12
  replace B12 := B12.ext hV3
  clear c_B13 f_B13 l_B13
  replace B13 := B13.ext hV3
  replace E : Ext w V3 := Ext.trans ext_by hV3
  clear hV3
  have c_B6 := B6.cell; have f_B6 := B6.frozen; have l_B6 := B6.lt; have c_B7 := B7.cell; have f_B7 := B7.frozen; have l_B7 := B7.lt; have c_B12 := B12.cell; have f_B12 := B12.frozen; have l_B12 := B12.lt; have c_B13 := B13.cell; have f_B13 := B13.frozen; have l_B13 := B13.lt
  go_wp2_with fail
  refine (HS.out _ ext_by).mono ?_
  rintro e V4 ⟨rfl, hV4⟩
  clear c_B6 f_B6 l_B6
  replace B6 := B6.ext hV4
  clear c_B7 f_B7 l_B7
  replace B7 := B7.ext hV4
  clear c_B12 f_B12 l_B12
  replace B12 := B12.ext hV4
  clear c_B13 f_B13 l_B13
  replace B13 := B13.ext hV4
  replace E : Ext w V4 := Ext.trans ext_by hV4
  clear hV4
  have c_B6 := B6.cell; have f_B6 := B6.frozen; have l_B6 := B6.lt; have c_B7 := B7.cell; have f_B7 := B7.frozen; have l_B7 := B7.lt; have c_B12 := B12.cell; have f_B12 := B12.frozen; have l_B12 := B12.lt; have c_B13 := B13.cell; have f_B13 := B13.frozen; have l_B13 := B13.lt
  go_wp2_with fail
  refine (HU.out _).mono ?_
  rintro e5 V5 ⟨b, hb, rfl, hV5, hG1, hG6, hG2, hG3, hG5, hG4⟩
  obtain ⟨b18, h18⟩ : ∃ q, q = V4.heap.size := ⟨_, rfl⟩
  have B18 : Blk V5 b18 39 #[.slice none 0 0] := (Blk.newAt h18).ext hV5
  have hb2 : b = b18 + 1 := by rw [hb, h18]; simp
  have o1 : w.heap.size + 1 + 1 + 1 < b18 := by have := B13.lt; omega
  have hV45 : Ext V4 V5 := (Ext.alloc0 _ _).trans hV5
  clear c_B6 f_B6 l_B6 c_B7 f_B7 l_B7 c_B12 f_B12 l_B12 c_B13 f_B13 l_B13
  replace B12 := B12.ext hV45
  replace B13 := B13.ext hV45
  replace E := E.trans hV45
  have o2 : b18 < V5.heap.size := B18.lt
  have hit := HIT.out b (b + 1 + 1) (b + 1 + 1 + 1) (b + 1 + 1 + 1 + 1 + 1) (b + 1 + 1 + 1 + 1) (b + 1) b18 V5 E hG1 hG2 hG3 hG4 hG5 hG6 o2 T HT.out ⟨by omega, by omega, by omega, by omega, by omega, by omega⟩
  rw [← h18]
  clear HIT HU hV5 hV45 hG1 hG2 hG3 hG4 hG5 hG6 B6 B7 HT h18 hb hb2 HS HY HD
  go_wp2_with fail
  refine wp_range_told hit rfl Tryz.call145 (fun _ => rfl) KpB.trans (KpB.put (by omega)) (updS_from _ _ _)
    (fun pre W => (allYes pre ∧ Ext w W) ∧ Blk W (w.heap.size + 1 + 1) 39 #[.slice none 0 0] ∧ Blk W (w.heap.size + 1 + 1 + 1) 41 #[.int .i64 0] ∧ Blk W b18 39 #[lastV pre])
    (fun c pre W => ((c = .ret ∧ Hid (T = none)) ∧ Ext w W) ∧ Blk W (w.heap.size + 1 + 1) 39 #[.slice none 0 0] ∧ Blk W (w.heap.size + 1 + 1 + 1) 41 #[.int .i64 14])
    (OwnFrom.and (OwnFrom.and (ownFrom_pure _ _) (ownFrom_ext (by omega))) (OwnFrom.and (ownFrom_blk _ _ _ _) (OwnFrom.and (ownFrom_blk _ _ _ _) (ownFrom_blk _ _ _ _))))
    (fun c => OwnFrom.and (OwnFrom.and (ownFrom_pure _ _) (ownFrom_ext (by omega))) (OwnFrom.and (ownFrom_blk _ _ _ _) (ownFrom_blk _ _ _ _)))
    ⟨⟨fun x hx => (by cases hx), E⟩, B12, B13, B18⟩
    (fun x t => (((t.setIfInBounds 51 (.slice x.A x.n x.c)).setIfInBounds 52 (.bool x.ok)).setIfInBounds 19 (.slice x.A x.n x.c)).setIfInBounds 20 (.bool x.ok)) ?assign ?body ?done ?stop
  case assign =>
    intro l n x W K hK
    simp only [List.setIfInBounds_toArray, List.set_cons_zero, List.set_cons_succ] at hK
    simp only [updE]
    gi_wp2
    exact hK
  case body =>
    rintro lb n pre x W hlt hW ⟨⟨hp, he⟩, hb12, hb13, hb18⟩
    simp only [List.setIfInBounds_toArray, List.set_cons_zero, List.set_cons_succ]
    have c12 := hb12.cell
    have f12 := hb12.frozen
    have l12 := hb12.lt
    have c13 := hb13.cell
    have f13 := hb13.frozen
    have l13 := hb13.lt
    have c18 := hb18.cell
    have f18 := hb18.frozen
    have l18 := hb18.lt
    have HP := Lib.hid hp
    have HE := Lib.hid he
    have H12 := Lib.hid hb12
    have H13 := Lib.hid hb13
    have H18 := Lib.hid hb18
    obtain ⟨xA, xn, xc, xb, hx⟩ := x
    have HX := hx
    clear hp he hb12 hb13 hb18 hlt
    dsimp only
    cases xb
    · gi_wp2
      exact ⟨((KeepsOthers.setCell _ _ _).from _).trans ((KeepsOthers.setCell _ _ _).from _), ⟨⟨rfl, Lib.hid (HX.out (by first | trivial | rfl))⟩, (HE.out.set (by dsimp only; omega) _).set (by dsimp only; omega) _⟩, (H12.out.set_ 0 _).far (by dsimp only; omega) _, (H13.out.far (by dsimp only; omega) _).set_ 0 _⟩
    · gi_wp2
      refine ⟨(KeepsOthers.setCell _ _ _).from _, KpB.setAt (by omega) _ _ _, ⟨fun y hy => ?_, HE.out.set (by dsimp only; omega) _⟩, H12.out.far (by dsimp only; omega) _, H13.out.far (by dsimp only; omega) _, ?_⟩
      · rcases List.mem_append.1 hy with h | h
        · exact HP.out y h
        · rw [List.mem_singleton.1 h]
      · rw [lastV_app]; exact H18.out.set_ 0 _
  case done =>
    rintro D xs W hD ⟨pre, x, rfl, hS⟩ ⟨⟨hp, he⟩, hb12, hb13, hb18⟩ hK
    rw [lastV_app] at hb18
    have hok := hp x (by simp)
    obtain ⟨L', hT, hO⟩ : ∃ L', T = some L' ∧ OwnBxs V5.heap.size W (.slice x.A x.n x.c) L' := by
      rcases hS with ⟨_, h⟩ | h
      · exact h
      · rw [hok] at h; cases h
    obtain ⟨xA, xn, xc, xb, hx⟩ := x
    have c12 := hb12.cell
    have f12 := hb12.frozen
    have l12 := hb12.lt
    have c13 := hb13.cell
    have f13 := hb13.frozen
    have l13 := hb13.lt
    have c18 := hb18.cell
    have l18 := hb18.lt
    have n1 : w.heap.size + 1 + 1 ≠ D := by omega
    have n2 : w.heap.size + 1 + 1 + 1 ≠ D := by omega
    have HTT := Lib.hid hT
    have HO := Lib.hid hO
    clear hS hok hp hit hT hO
    dsimp only at c18 HO ⊢
    go_wp2_with fail
    have hK' : ((W.setCell ⟨w.heap.size + 1 + 1, 0, none⟩ (.slice xA xn xc)).setCell ⟨w.heap.size + 1 + 1 + 1, 0, none⟩ (.int .i64 0)).heap[D]? = some (.deferred (some [])) := by
      rw [Below.heap_setCell _ _ _ _ (fun e => n2 e.symm), Below.heap_setCell _ _ _ _ (fun e => n1 e.symm)]; exact hK
    refine ⟨by simp, .inl ⟨_, _, rfl, run_takeDeferred hK', ?_⟩⟩
    have hB12 := (Blk.put (o := Obj.deferred none) ((hb12.set_ 0 (.slice xA xn xc)).far (p := ⟨w.heap.size + 1 + 1 + 1, 0, none⟩) (by dsimp only; omega) (.int .i64 0)) n1).cell
    have hB13 := (Blk.put (o := Obj.deferred none) ((hb13.far (p := ⟨w.heap.size + 1 + 1, 0, none⟩) (by dsimp only; omega) (.slice xA xn xc)).set_ 0 (.int .i64 0)) n2).cell
    refine ⟨.tuple #[.slice xA xn xc, .int .i64 0], ?_, .slice xA xn xc, by rw [← HER.out, HTT.out]; rfl, ?_, Ext.put ((he.set (by dsimp only; omega) _).set (by dsimp only; omega) _) (by omega)⟩
    · simp only [results, Tryz.results54]
      go_simp
    · have h5 := own_from (B := 0) (own_low (own_low HO.out (p := ⟨w.heap.size + 1 + 1, 0, none⟩) (by dsimp only; omega) (.slice xA xn xc)) (p := ⟨w.heap.size + 1 + 1 + 1, 0, none⟩) (by dsimp only; omega) (.int .i64 0)) (grownBy_putObj' _ D (.deferred none)) (fun r e => by cases e; exact ⟨Nat.zero_le _, _, hK', rfl⟩)
      rw [← HTL.out, HTT.out]
      exact h5.mono (by omega)
  case stop =>
    rintro D c pre W hD ⟨⟨⟨rfl, hT⟩, he⟩, hb12, hb13⟩ hK
    have n1 : w.heap.size + 1 + 1 ≠ D := by omega
    have n2 : w.heap.size + 1 + 1 + 1 ≠ D := by omega
    clear hit
    dsimp only
    go_wp2_with fail
    refine ⟨by simp, .inl ⟨_, _, rfl, run_takeDeferred hK, ?_⟩⟩
    have hB12 := (Blk.put (o := Obj.deferred none) hb12 n1).cell
    have hB13 := (Blk.put (o := Obj.deferred none) hb13 n2).cell
    refine ⟨.tuple #[.slice none 0 0, .int .i64 14], ?_, .slice none 0 0, by rw [← HER.out, hT.out]; rfl, ?_, Ext.put he (by omega)⟩
    · simp only [results, Tryz.results54]
      go_simp
    · rw [← HTL.out, hT.out]; exact OwnBxs.nil _ _
set_option maxRecDepth 20000 in
set_option maxHeartbeats 4000000 in
theorem oUpd_no (A1 : Option Addr) (n1 c1 : Nat) (home : Int) (A2 : Option Addr) (n2 c2 : Nat) (A3 : Option Addr) (n3 c3 : Nat) (s : Sky) (ll lh el eh g : Int) (tick : Int) (A : Option Addr) (n c : Nat) (L : List Bx) (ticks : Int) (B : Option Addr) (m e : Nat) (sg : List Sight) (w : World) (hs : IsSky w A1 n1 home A2 n2 A3 n3 s) (hl : Bxs w A n L) (hr : Sights w B m sg) (E : Int)
    (h : (skyErr s = E ∧ E ≠ 0) ∨ (skyErr s = 0 ∧ driftErr ⟨⟨ll, lh⟩, ⟨el, eh⟩, g⟩ = E ∧ E ≠ 0) ∨ (skyErr s = 0 ∧ driftErr ⟨⟨ll, lh⟩, ⟨el, eh⟩, g⟩ = 0 ∧ wayErr tick ticks L = E ∧ E ≠ 0) ∨ (skyErr s = 0 ∧ driftErr ⟨⟨ll, lh⟩, ⟨el, eh⟩, g⟩ = 0 ∧ wayErr tick ticks L = 0 ∧ sgsErr s sg = E ∧ E ≠ 0)) :
    Calls Tryz.prog 54 #[.agg #[.slice A1 n1 c1, .int .i64 home, .slice A2 n2 c2, .slice A3 n3 c3], .agg #[.int .i64 ll, .int .i64 lh, .int .i64 el, .int .i64 eh, .int .i64 g], .int .i64 tick, .slice A n c, .int .i64 ticks, .slice B m e] w fun e' w' => e' = .returned (.tuple #[.slice none 0 0, .int .i64 E]) ∧ Ext w w' := by
  have HK := Lib.hid fun W (hW : Ext w W) => Check_c A1 n1 c1 home A2 n2 c2 A3 n3 c3 s W (hs.ext hW)
  have HD := Lib.hid fun W => fCheckDrift_c ll lh el eh g W
  have HY := Lib.hid fun W (hW : Ext w W) => oWay_c tick ticks A n c L W (Bxs.ext hW hl)
  have HS := Lib.hid fun W (hW : Ext w W) => oCheckSights_c A1 n1 c1 home A2 n2 c2 A3 n3 c3 s B m e sg W (hs.ext hW) (Sights.ext hW hr)
  generalize skyErr s = E1 at *
  generalize driftErr _ = E2 at *
  generalize wayErr _ _ _ = E3 at *
  generalize sgsErr _ _ = E4 at *
  clear hs hl hr
  rcases h with ⟨rfl, h5⟩ | ⟨rfl, rfl, h5⟩ | ⟨rfl, rfl, rfl, h5⟩ | ⟨rfl, rfl, rfl, rfl, h5⟩
  · go_enter Tryz.func54, Tryz.ntmps54
    go_wp2_with fail
    refine (HK.out _ ext_by).mono ?_
    rintro e w1 ⟨rfl, h1⟩
    obtain ⟨hc_w1, hf_w1, hz_w1⟩ := bcell h1; (try simp only [szA] at hz_w1); (try have := wz0 w w1); (try have := wz1 w w1); (try have := wz2 w w1); (try have := wz3 w w1); (try have := wz4 w w1)
    go_wp2_with fail
    (try simp only [Exit.inBlock, Exit.then]); apply bodyPost_ret; (focus (simp only [results, Tryz.results54]; go_simp; try rfl)); rfl
    exact ⟨rfl, ext_by⟩
  · go_enter Tryz.func54, Tryz.ntmps54
    go_wp2_with fail
    refine (HK.out _ ext_by).mono ?_
    rintro e w1 ⟨rfl, h1⟩
    obtain ⟨hc_w1, hf_w1, hz_w1⟩ := bcell h1; (try simp only [szA] at hz_w1); (try have := wz0 w w1); (try have := wz1 w w1); (try have := wz2 w w1); (try have := wz3 w w1); (try have := wz4 w w1)
    go_wp2_with fail
    refine (HD.out _).mono ?_
    rintro e w2 ⟨rfl, h2⟩
    obtain ⟨hc_w2, hf_w2, hz_w2⟩ := bcell h2; (try simp only [szA] at hz_w2); (try have := wz0 w w2); (try have := wz1 w w2); (try have := wz2 w w2); (try have := wz3 w w2); (try have := wz4 w w2)
    go_wp2_with fail
    (try simp only [Exit.inBlock, Exit.then]); apply bodyPost_ret; (focus (simp only [results, Tryz.results54]; go_simp; try rfl)); rfl
    exact ⟨rfl, ext_by⟩
  · go_enter Tryz.func54, Tryz.ntmps54
    go_wp2_with fail
    refine (HK.out _ ext_by).mono ?_
    rintro e w1 ⟨rfl, h1⟩
    obtain ⟨hc_w1, hf_w1, hz_w1⟩ := bcell h1; (try simp only [szA] at hz_w1); (try have := wz0 w w1); (try have := wz1 w w1); (try have := wz2 w w1); (try have := wz3 w w1); (try have := wz4 w w1)
    go_wp2_with fail
    refine (HD.out _).mono ?_
    rintro e w2 ⟨rfl, h2⟩
    obtain ⟨hc_w2, hf_w2, hz_w2⟩ := bcell h2; (try simp only [szA] at hz_w2); (try have := wz0 w w2); (try have := wz1 w w2); (try have := wz2 w w2); (try have := wz3 w w2); (try have := wz4 w w2)
    go_wp2_with fail
    refine (HY.out _ ext_by).mono ?_
    rintro e w3 ⟨rfl, h3⟩
    obtain ⟨hc_w3, hf_w3, hz_w3⟩ := bcell h3; (try simp only [szA] at hz_w3); (try have := wz0 w w3); (try have := wz1 w w3); (try have := wz2 w w3); (try have := wz3 w w3); (try have := wz4 w w3)
    go_wp2_with fail
    (try simp only [Exit.inBlock, Exit.then]); apply bodyPost_ret; (focus (simp only [results, Tryz.results54]; go_simp; try rfl)); rfl
    exact ⟨rfl, ext_by⟩
  · go_enter Tryz.func54, Tryz.ntmps54
    go_wp2_with fail
    refine (HK.out _ ext_by).mono ?_
    rintro e w1 ⟨rfl, h1⟩
    obtain ⟨hc_w1, hf_w1, hz_w1⟩ := bcell h1; (try simp only [szA] at hz_w1); (try have := wz0 w w1); (try have := wz1 w w1); (try have := wz2 w w1); (try have := wz3 w w1); (try have := wz4 w w1)
    go_wp2_with fail
    refine (HD.out _).mono ?_
    rintro e w2 ⟨rfl, h2⟩
    obtain ⟨hc_w2, hf_w2, hz_w2⟩ := bcell h2; (try simp only [szA] at hz_w2); (try have := wz0 w w2); (try have := wz1 w w2); (try have := wz2 w w2); (try have := wz3 w w2); (try have := wz4 w w2)
    go_wp2_with fail
    refine (HY.out _ ext_by).mono ?_
    rintro e w3 ⟨rfl, h3⟩
    obtain ⟨hc_w3, hf_w3, hz_w3⟩ := bcell h3; (try simp only [szA] at hz_w3); (try have := wz0 w w3); (try have := wz1 w w3); (try have := wz2 w w3); (try have := wz3 w w3); (try have := wz4 w w3)
    go_wp2_with fail
    refine (HS.out _ ext_by).mono ?_
    rintro e w4 ⟨rfl, h4⟩
    obtain ⟨hc_w4, hf_w4, hz_w4⟩ := bcell h4; (try simp only [szA] at hz_w4); (try have := wz0 w w4); (try have := wz1 w w4); (try have := wz2 w w4); (try have := wz3 w w4); (try have := wz4 w w4)
    go_wp2_with fail
    (try simp only [Exit.inBlock, Exit.then]); apply bodyPost_ret; (focus (simp only [results, Tryz.results54]; go_simp; try rfl)); rfl
    exact ⟨rfl, ext_by⟩
theorem upd_cases (s : Sky) (d : Drf) (tick : Int) (L : List Bx) (ticks : Int) (sg : List Sight) :
    (skyErr s = 0 ∧ driftErr d = 0 ∧ wayErr tick ticks L = 0 ∧ sgsErr s sg = 0 ∧ updErr s d tick L ticks sg = (if (updM s d sg ticks.toNat tick (filtL s tick sg L)).isSome then 0 else 14) ∧ updL s d tick L ticks sg = (updM s d sg ticks.toNat tick (filtL s tick sg L)).getD []) ∨
    (updL s d tick L ticks sg = [] ∧ ((skyErr s = updErr s d tick L ticks sg ∧ updErr s d tick L ticks sg ≠ 0) ∨ (skyErr s = 0 ∧ driftErr d = updErr s d tick L ticks sg ∧ updErr s d tick L ticks sg ≠ 0) ∨ (skyErr s = 0 ∧ driftErr d = 0 ∧ wayErr tick ticks L = updErr s d tick L ticks sg ∧ updErr s d tick L ticks sg ≠ 0) ∨ (skyErr s = 0 ∧ driftErr d = 0 ∧ wayErr tick ticks L = 0 ∧ sgsErr s sg = updErr s d tick L ticks sg ∧ updErr s d tick L ticks sg ≠ 0))) := by
  unfold updL
  obtain ⟨U, hU⟩ : ∃ U, updErr s d tick L ticks sg = U := ⟨_, rfl⟩
  rw [hU]
  unfold updErr at hU
  by_cases h1 : skyErr s = 0
  · rw [if_pos h1] at hU
    by_cases h2 : driftErr d = 0
    · rw [if_pos h2] at hU
      by_cases h3 : wayErr tick ticks L = 0
      · rw [if_pos h3] at hU
        by_cases h4 : sgsErr s sg = 0
        · rw [if_pos h4] at hU
          refine .inl ⟨h1, h2, h3, h4, hU.symm, ?_⟩
          cases hM : updM s d sg ticks.toNat tick (filtL s tick sg L) with
          | none => split <;> rfl
          | some l => rw [hM] at hU; rw [if_pos (by rw [← hU]; rfl)]
        · rw [if_neg h4] at hU
          have hn : ¬ U = 0 := fun q => h4 (hU.trans q)
          rw [if_neg hn]
          exact .inr ⟨rfl, .inr (.inr (.inr ⟨h1, h2, h3, hU, hn⟩))⟩
      · rw [if_neg h3] at hU
        have hn : ¬ U = 0 := fun q => h3 (hU.trans q)
        rw [if_neg hn]
        exact .inr ⟨rfl, .inr (.inr (.inl ⟨h1, h2, hU, hn⟩))⟩
    · rw [if_neg h2] at hU
      have hn : ¬ U = 0 := fun q => h2 (hU.trans q)
      rw [if_neg hn]
      exact .inr ⟨rfl, .inr (.inl ⟨h1, hU, hn⟩)⟩
  · rw [if_neg h1] at hU
    have hn : ¬ U = 0 := fun q => h1 (hU.trans q)
    rw [if_neg hn]
    exact .inr ⟨rfl, .inl ⟨hU, hn⟩⟩
theorem oUpdate_c (A1 : Option Addr) (n1 c1 : Nat) (home : Int) (A2 : Option Addr) (n2 c2 : Nat) (A3 : Option Addr) (n3 c3 : Nat) (s : Sky) (d : Drf) (tick : Int) (A : Option Addr) (n c : Nat) (L : List Bx) (ticks : Int) (B : Option Addr) (m e : Nat) (sg : List Sight) (w : World) (hs : IsSky w A1 n1 home A2 n2 A3 n3 s) (hl : Bxs w A n L) (hr : Sights w B m sg) :
    Calls Tryz.prog 54 #[.agg #[.slice A1 n1 c1, .int .i64 home, .slice A2 n2 c2, .slice A3 n3 c3], .agg #[.int .i64 d.light.lo, .int .i64 d.light.hi, .int .i64 d.heat.lo, .int .i64 d.heat.hi, .int .i64 d.gas], .int .i64 tick, .slice A n c, .int .i64 ticks, .slice B m e] w fun e' w' =>
      ∃ v, e' = .returned (.tuple #[v, .int .i64 (updErr s d tick L ticks sg)]) ∧ OwnBxs w.heap.size w' v (updL s d tick L ticks sg) ∧ Ext w w' := by
  rcases upd_cases s d tick L ticks sg with ⟨h1, h2, h3, h4, h5, h6⟩ | ⟨h1, h2⟩
  · rw [h5, h6]
    have ht : ((ticks.toNat : Nat) : Int) = ticks := by have := (way_ok h3).1; omega
    have := oUpd_yes A1 n1 c1 home A2 n2 c2 A3 n3 c3 s d tick A n c L ticks.toNat B m e sg w hs hl hr h1 h2 (by rw [ht]; exact h3) h4 _ rfl
    rw [ht] at this
    exact this
  · rw [h1]
    refine (oUpd_no A1 n1 c1 home A2 n2 c2 A3 n3 c3 s d.light.lo d.light.hi d.heat.lo d.heat.hi d.gas tick A n c L ticks B m e sg w hs hl hr _ h2).mono ?_
    rintro e' w' ⟨he, h⟩
    exact ⟨_, he, OwnBxs.nil _ _, h⟩
end Go.Proofs.YtfniicgoeljmdaaGreat
