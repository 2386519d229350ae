/- Where stations are: the reference. No condition. -/
import Derived.Test.YtfniicgoeljmdaaGreatOwnInts
namespace Go.Proofs.YtfniicgoeljmdaaGreat
open Go.RowKit

theorem tw_val {P : Program} {S F : World → Prop} {Q : Exit → Act → World → Prop} {o : Oper} {T : List Oper} {a : Act} {v : Value} (hg : o.guard = none) (hF : Stable F) (hFS : ∀ w, F w → S w)
    (hrun : ∀ w, (execOp a.eval o).run P w = .ok (.value v) w) (h : TW P S Q T (a.put o.dst v) F) : TW P S Q (o :: T) a F :=
  ⟨hg, fun w hw => ⟨v, w, F, .inl (hrun w), hF, hFS, hw, h⟩⟩

theorem stn_none {l : List Stn} {id : Int} (h : stnOf l id = none) : idxFrom (fun x : Stn => x.id == id) l 0 = -1 := by
  rcases idx_cases (fun x : Stn => x.id == id) l with ⟨h1, _⟩ | ⟨i, y, _, _, _, h2⟩
  · exact h1
  · rw [stnOf, h2] at h; cases h

set_option maxRecDepth 4000 in
set_option maxHeartbeats 1000000 in
theorem refWhere_c (A1 : Option Addr) (n1 c1 : Nat) (home : Int) (A2 : Option Addr) (n2 c2 : Nat) (A3 : Option Addr) (n3 c3 : Nat) (s : Sky) (id tick : Int) (w : World) (hs : IsSky w A1 n1 home A2 n2 A3 n3 s) :
    Calls Tryz.prog 116 #[.agg #[.slice A1 n1 c1, .int .i64 home, .slice A2 n2 c2, .slice A3 n3 c3], .int .i64 id, .int .i64 tick] w fun e w' =>
      e = .returned (.tuple #[.agg #[.int .i64 (optV (whereM s id tick)).x, .int .i64 (optV (whereM s id tick)).y], .bool (whereM s id tick).isSome]) ∧ Ext w w' := by
  have HC := Lib.hid fun W (hW : Ext w W) => refCheck_c A1 n1 c1 home A2 n2 c2 A3 n3 c3 s W (hs.ext hW)
  have HS := Lib.hid fun W (hW : Ext w W) => refStation_c A1 n1 c1 home A2 n2 c2 A3 n3 c3 id s.stations W (hs.ext hW).stations
  by_cases hok : skyErr s = 0
  · rw [hok] at HC
    cases hx : stnOf s.stations id with
    | none =>
      rw [stn_none hx] at HS
      have hM : whereM s id tick = none := by rw [whereM, hx]; simp
      rw [hM]
      clear hM hx hok hs
      go_enter Tryz.func116, Tryz.ntmps116
      go_wp2_with fail
      refine (HC.out _ ext_by).mono ?_
      rintro e w1 ⟨rfl, h1⟩; obtain ⟨hc_w1, hf_w1, hz_w1⟩ := bcell h1; (try simp only [szA] at hz_w1); have : w.heap.size < w1.heap.size := (by omega); have : w.heap.size + 1 < w1.heap.size := (by omega)
      go_wp2_with fail
      refine (HS.out _ ext_by).mono ?_
      rintro e w2 ⟨rfl, h2⟩; obtain ⟨hc_w2, hf_w2, hz_w2⟩ := bcell h2; (try simp only [szA] at hz_w2); have : w.heap.size < w2.heap.size := (by omega); have : w.heap.size + 1 < w2.heap.size := (by omega)
      go_wp2_with fail
      (try simp only [Exit.inBlock, Exit.then]); apply bodyPost_ret; (focus (simp only [results, Tryz.results116]; go_simp; try rfl)); rfl
      exact ⟨rfl, ext_by⟩
    | some x =>
      obtain ⟨i, hi1, hi2⟩ := stn_at hx
      rw [hi1] at HS
      cases ht : within tick 0 1073741824
      · have hM : whereM s id tick = none := by rw [whereM, if_neg (by simp [ht])]
        rw [hM]
        have Ht := Lib.hid ht
        clear hM hx hok hs hi1 hi2 ht
        go_enter Tryz.func116, Tryz.ntmps116
        go_wp2_with fail
        refine (HC.out _ ext_by).mono ?_
        rintro e w1 ⟨rfl, h1⟩; obtain ⟨hc_w1, hf_w1, hz_w1⟩ := bcell h1; (try simp only [szA] at hz_w1); have : w.heap.size < w1.heap.size := (by omega); have : w.heap.size + 1 < w1.heap.size := (by omega)
        go_wp2_with fail
        refine (HS.out _ ext_by).mono ?_
        rintro e w2 ⟨rfl, h2⟩; obtain ⟨hc_w2, hf_w2, hz_w2⟩ := bcell h2; (try simp only [szA] at hz_w2); have : w.heap.size < w2.heap.size := (by omega); have : w.heap.size + 1 < w2.heap.size := (by omega)
        go_wp2_with fail
        refine (between_c _ _ _ _).mono ?_
        rintro e w3 ⟨rfl, rfl⟩
        rw [Ht.out]
        go_wp2_with fail
        (try simp only [Exit.inBlock, Exit.then]); apply bodyPost_ret; (focus (simp only [results, Tryz.results116]; go_simp; try rfl)); rfl
        exact ⟨rfl, ext_by⟩
      · have hM : whereM s id tick = some (addV (homeAt s tick) x.off) := by rw [whereM, if_pos ⟨hok, ht⟩, hx]; rfl
        have ht' := (within_iff _ _ _).1 ht
        have HW := Lib.hid fun W (hW : Ext w W) => refwhere_c A1 n1 c1 home A2 n2 c2 A3 n3 c3 s i x tick W (hs.ext hW) hok hi2 ht'.1 ht'.2
        rw [hM]
        simp only [optV, Option.isSome_some]
        have Ht := Lib.hid ht
        generalize addV (homeAt s tick) x.off = p at *
        clear hM hx hok hs hi1 hi2 ht ht'
        go_enter Tryz.func116, Tryz.ntmps116
        go_wp2_with fail
        refine (HC.out _ ext_by).mono ?_
        rintro e w1 ⟨rfl, h1⟩; obtain ⟨hc_w1, hf_w1, hz_w1⟩ := bcell h1; (try simp only [szA] at hz_w1); have : w.heap.size < w1.heap.size := (by omega); have : w.heap.size + 1 < w1.heap.size := (by omega)
        go_wp2_with fail
        refine (HS.out _ ext_by).mono ?_
        rintro e w2 ⟨rfl, h2⟩; obtain ⟨hc_w2, hf_w2, hz_w2⟩ := bcell h2; (try simp only [szA] at hz_w2); have : w.heap.size < w2.heap.size := (by omega); have : w.heap.size + 1 < w2.heap.size := (by omega)
        go_wp2_with fail
        refine (between_c _ _ _ _).mono ?_
        rintro e w3 ⟨rfl, rfl⟩
        rw [Ht.out]
        go_wp2_with fail
        refine wp_region_tail 6 (Wr _ (w.heap.size + 1)) _ (Wr.pst _ _ 85 #[.int .i64 0, .int .i64 0]) (fun _ h => h.1) (Wr.pre ?_) (by kernel_rfl) (by kernel_rfl) ?_
        · exact Blk.ext (Blk.newAt (by simp)) (Ext.trans (Ext.trans h1 h2) ext_by)
        repeat' (first | (refine bl_off (by rfl) ?_; simp only [putX]) | (apply bl_op; rfl; (intro w1 h1; obtain ⟨hc, hf, hz⟩ := Wr.cells h1; go_simp; (try go_bits); (first | exact ⟨rfl, Ext.refl _⟩ | (apply gives_call; first | (go_at_call 150; exact HS.out _ (Wr.ext h1 ext_by (by omega))) | (go_at_call 151; exact HW.out _ (Wr.ext h1 ext_by (by omega)))) | (go_invoke; go_simp; apply gives_call; first | (go_at_call 150; exact HS.out _ (Wr.ext h1 ext_by (by omega))) | (go_at_call 151; exact HW.out _ (Wr.ext h1 ext_by (by omega)))))); simp only [putX]) | (refine bl_split rfl rfl (fun hx => ?_) (fun hx => ?_) <;> simp only [hx]))
        refine bl_nil ?_
        refine tw_put rfl rfl (vs := #[.int .i64 p.x, .int .i64 p.y]) (fun w2 h2 hB => ?_) ?_
        · have hcB := hB.cell; have hfB := hB.frozen
          refine ⟨_, by go_simp, (h2.set rfl _).set rfl _, (hB.set_ 0 _).set_ 1 _⟩
        refine tw_val rfl (Wr.pst _ _ _ _) (fun _ h => h.1) (v := .bool true) (fun w => by go_simp) ?_
        refine tw_nil ?_
        rintro w4 ⟨h4, hB⟩
        have hcB := hB.cell; have hfB := hB.frozen
        go_wp2_with fail
        (try simp only [Exit.inBlock, Exit.then]); apply bodyPost_ret; (focus (simp only [results, Tryz.results116]; go_simp; try rfl)); rfl
        exact ⟨rfl, h4.ext ext_by (by omega)⟩
  · have hM : whereM s id tick = none := by rw [whereM, if_neg (fun h => hok h.1)]
    rw [hM]
    have h0' : (skyErr s != 0) = true := by simpa using hok
    generalize skyErr s = M at *
    clear hs hok hM
    go_enter Tryz.func116, Tryz.ntmps116
    go_wp2_with fail
    refine (HC.out _ ext_by).mono ?_
    rintro e w1 ⟨rfl, h1⟩; obtain ⟨hc_w1, hf_w1, hz_w1⟩ := bcell h1; (try simp only [szA] at hz_w1); have : w.heap.size < w1.heap.size := (by omega); have : w.heap.size + 1 < w1.heap.size := (by omega)
    go_wp2_with fail
    (try simp only [Exit.inBlock, Exit.then]); apply bodyPost_ret; (focus (simp only [results, Tryz.results116]; go_simp; try rfl)); rfl
    exact ⟨rfl, ext_by⟩
end Go.Proofs.YtfniicgoeljmdaaGreat
