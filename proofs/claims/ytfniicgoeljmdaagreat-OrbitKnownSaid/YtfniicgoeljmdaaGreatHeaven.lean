/- The sky of the chapter's examples. No condition. -/
import Derived.Test.YtfniicgoeljmdaaGreatOKnownLaw
import Derived.Test.YtfniicgoeljmdaaGreatOwnBoxes
import Derived.Test.YtfniicgoeljmdaaGreatFreeWalk
import Derived.Test.YtfniicgoeljmdaaGreatOutStart
import Derived.Test.YtfniicgoeljmdaaGreatLast
import Derived.Test.YtfniicgoeljmdaaGreatForced
namespace Go.Proofs.YtfniicgoeljmdaaGreat
open Go.RowKit

section
variable {P : Program} {ops : Array Oper} {S : World → Prop} {K : Env → Act → Prop} {o : Oper} {r : List Oper} {n : Nat} {env : Env} {a : Act}
theorem fb_use2_eff {d d' : Nat} {t t' : Option Tmp} {g g' : Value → World → Prop} (k : Value → World → Prop) (hst : ∀ v, Stable (k v)) (hU : seesE ops n env = [(d, t, g), (d', t', g')]) (hw : ∀ u u', Region.wanted o (yielded ops ((a.put t u).put t' u').tmps) = true)
    (h : ∀ u u' w, S w → g u w → g' u' w → RunsTo P (fun v w1 => k v w1 ∧ Ext w w1) ((execOp ((a.put t u).put t' u').eval o).run P w)) (hr : FB P ops S K r (n + 1) ((n, o.dst, k) :: env) a) : FB P ops S K (o :: r) n env a :=
  .inr ⟨k, hst, fun val w hS hg => by
    have h1 := hg
    rw [hU] at h1
    have h2 := h1 (d, t, g) (by simp)
    have h3 := h1 (d', t', g') (by simp)
    refine .inl ?_
    rw [hU]
    exact ⟨hw (val d) (val d'), h (val d) (val d') w hS h2 h3⟩, hr⟩
end
def IsHeaven (v : Value) (w : World) : Prop := ∃ A1 c1 A2 c2 A3 c3, v = .agg #[.slice A1 1 c1, .int .i64 0, .slice A2 1 c2, .slice A3 1 c3] ∧ IsSky w A1 1 0 A2 1 A3 1 heavenS
theorem one_stn {w : World} {b : Nat} {t : TypeId} {x : Stn} (h : Blk w b t #[.int .i64 x.id, .int .i64 x.off.x, .int .i64 x.off.y]) : Stns w (some ⟨b, 0, none⟩) 1 [x] :=
  ⟨rfl, by decide, .inr ⟨b, 0, rfl, one4 (P := fun x k => stnAt w x b (0 + k * 3)) ⟨h.cell 0, h.cell 1, h.cell 2⟩⟩⟩
theorem one_cat {w : World} {b : Nat} {t : TypeId} {x : Cat} (h : Blk w b t #[.int .i64 x.version, .int .i64 x.lo, .int .i64 x.hi]) : Cats w (some ⟨b, 0, none⟩) 1 [x] :=
  ⟨rfl, by decide, .inr ⟨b, 0, rfl, one4 (P := fun x k => catAt w x b (0 + k * 3)) ⟨h.cell 0, h.cell 1, h.cell 2⟩⟩⟩

theorem uno_sight {w : World} {b : Nat} {t : TypeId} {x : Sight} (h : Blk w b t #[.int .i64 x.kind, .int .i64 x.station, .int .i64 x.catalog, .int .i64 x.tick, .int .i64 x.dx, .int .i64 x.dy, .int .i64 x.err, .int .i64 x.lo, .int .i64 x.hi]) : Sights w (some ⟨b, 0, none⟩) 1 [x] :=
  ⟨rfl, by decide, .inr ⟨b, 0, rfl, one4 (P := fun x k => sightAt w x b (0 + k * 9)) ⟨h.cell 0, h.cell 1, h.cell 2, h.cell 3, h.cell 4, h.cell 5, h.cell 6, h.cell 7, h.cell 8⟩⟩⟩
set_option maxHeartbeats 1000000 in
theorem still_blk (w : World) :
    Calls Tryz.prog 58 #[] w fun e w' => ∃ b1 b3, e = .returned (.agg #[.slice (some ⟨b3, 0, none⟩) 1 1, .int .i64 0]) ∧ w.heap.size ≤ b1 ∧ w.heap.size ≤ b3 ∧ Blk w' b1 85 #[.int .i64 0, .int .i64 0] ∧ Blk w' b3 97 #[.int .i64 0, .int .i64 0, .slice (some ⟨b1, 0, none⟩) 1 1] ∧ Ext w w' := by
  go_enter Tryz.func58, Tryz.ntmps58
  go_wp2_with fail
  (try simp only [Exit.inBlock, Exit.then]); apply bodyPost_ret; (focus (simp only [results, Tryz.results58]; go_simp; try rfl)); rfl
  refine ⟨w.heap.size + 1, w.heap.size + 1 + 1, rfl, by omega, by omega, (Blk.newAt (by simp)).alloc _, Blk.newAt (by simp), ext_by⟩
set_option maxRecDepth 8000 in
set_option maxHeartbeats 2000000 in
theorem heaven_c (w : World) : Calls Tryz.prog 61 #[] w fun e w' => ∃ v, e = .returned v ∧ IsHeaven v w' ∧ Ext w w' := by
  go_enter Tryz.func61, Tryz.ntmps61
  go_wp2_with fail
  obtain ⟨V, hV⟩ : ∃ W, W = w.alloc (.cells #[.slice none 0 0, .int .i64 0, .slice none 0 0, .slice none 0 0] 53) := ⟨_, rfl⟩
  rw [← hV]
  have B0 : Blk V w.heap.size 53 #[.slice none 0 0, .int .i64 0, .slice none 0 0, .slice none 0 0] := by rw [hV]; exact Blk.newAt rfl
  have E : Ext w V := by rw [hV]; exact ext_by
  have hzV := B0.lt
  clear hV
  refine (still_blk V).mono ?_
  rintro e w1 ⟨b1, b3, rfl, g1, g3, B1, B3, h1⟩
  replace B0 := B0.ext h1
  replace E := E.trans h1
  clear h1
  have c_B0 := B0.cell; have f_B0 := B0.frozen; have l_B0 := B0.lt; have c_B1 := B1.cell; have f_B1 := B1.frozen; have l_B1 := B1.lt; have c_B3 := B3.cell; have f_B3 := B3.frozen; have l_B3 := B3.lt
  go_wp2_with fail
  (try dsimp only); repeat' (first | go_values | go_skip | go_guarded | go_step | go_upon | go_in | go_at_K)
  refine name_w _ ?_
  intro V2 hV2
  have c1 : Blk V2 b1 85 #[.int .i64 0, .int .i64 0] := by rw [hV2]; exact ((((((B1.far (by dsimp only; omega) _).far (by dsimp only; omega) _).far (by dsimp only; omega) _).far (by dsimp only; omega) _)).alloc _).alloc _
  have c3 : Blk V2 b3 97 #[.int .i64 0, .int .i64 0, .slice (some ⟨b1, 0, none⟩) 1 1] := by rw [hV2]; exact ((((((B3.far (by dsimp only; omega) _).far (by dsimp only; omega) _).far (by dsimp only; omega) _).far (by dsimp only; omega) _)).alloc _).alloc _
  have c4 : Blk V2 w1.heap.size 146 #[.int .i64 1, .int .i64 0, .int .i64 0] := by rw [hV2]; exact (Blk.newAt (by simp)).alloc _
  have c5 : Blk V2 (w1.heap.size + 1) 148 #[.int .i64 1, .int .i64 0, .int .i64 0] := by rw [hV2]; exact Blk.newAt (by simp)
  have E2 : Ext w V2 := by rw [hV2]; exact ext_by
  have c0 : Blk V2 w.heap.size 53 #[.slice (some ⟨b3, 0, none⟩) 1 1, .int .i64 0, .slice (some ⟨w1.heap.size, 0, none⟩) 1 1, .slice (some ⟨w1.heap.size + 1, 0, none⟩) 1 1] := by rw [hV2]; exact (((((B0.set_ 0 _).set_ 1 _).set_ 2 _).set_ 3 _).alloc _).alloc _
  clear c_B0 f_B0 l_B0 c_B1 f_B1 l_B1 c_B3 f_B3 l_B3
  clear hV2 B0 B1 B3 E
  have c_c0 := c0.cell; have f_c0 := c0.frozen; have l_c0 := c0.lt
  (try simp only [Exit.inBlock, Exit.then]); apply bodyPost_ret; (focus (simp only [results, Tryz.results61]; go_simp; try rfl)); rfl
  exact ⟨_, rfl, ⟨_, _, _, _, _, _, rfl, still_bodies c1 c3, rfl, one_stn (x := ⟨1, ⟨0, 0⟩⟩) c4, one_cat (x := ⟨1, 0, 0⟩) c5⟩, E2⟩
end Go.Proofs.YtfniicgoeljmdaaGreat
