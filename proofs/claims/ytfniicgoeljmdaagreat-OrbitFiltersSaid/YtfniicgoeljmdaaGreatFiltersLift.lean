/- OrbitFilters, lifted to what the statement says of a run. No condition. -/
import Derived.Test.YtfniicgoeljmdaaGreatFiltersLaw
namespace Go.Proofs.YtfniicgoeljmdaaGreat
open Go.RowKit Go.ChangeShapes Go.WideShapes Go.ChangeAt

set_option maxRecDepth 100000 in
set_option maxHeartbeats 1000000 in
theorem filters_lifted (os : Os) (started : os.Started) (H : Type) (enc : TypeId × Value → H) :
    ReturnsInHanded {} Tryz.checked os 8 .any (Rows.orbitFiltersSpec.pre6 enc Tryz.prog Tryz.f8 Rows.orbitFiltersRow.domain false) (Rows.orbitFiltersSpec.post enc Tryz.prog Tryz.f8 false true false false) := by
  refine returnsInHanded_of_change (C := Tryz.checked) own started (by kernel_rfl) Tryz.func8
    (ChangeSpec.witness6 (enc := enc) (C := Tryz.checked) false ⟨#[], #[.agg #[.slice none 0 0, .int .i64 0, .slice none 0 0, .slice none 0 0], .int .i64 0, .slice none 0 0, .slice none 0 0, .int .i64 0], []⟩ 8 (by kernel_rfl) (by kernel_rfl) (by kernel_rfl) (by kernel_rfl)) ?_
  intro W base args ds gs before hval0 hW _ _
  have hval : ∀ (j : Nat) t v, Tryz.f8.params[j]? = some t → args[j]? = some v → Value.okWide Tryz.prog W .any base t v := hval0
  have hW' := hW
  obtain ⟨p, q, hA0, hV, rfl, hfz, hnd⟩ := hW
  have hA : DataW.TrodAll enc Tryz.prog W 0 (fun _ => true) true Tryz.f8.params.toList args.toList ds p := hA0
  rw [Tryz.params8] at hA hval
  obtain ⟨v0, vs0, d0, ds0, p0, q0, hargs, rfl, rfl, h0, r0⟩ := trodAll_cons hA
  obtain ⟨v1, vs1, d1, ds1, p1, q1, rfl, rfl, rfl, h1, r1⟩ := trodAll_cons r0
  obtain ⟨v2, vs2, d2, ds2, p2, q2, rfl, rfl, rfl, h2, r2⟩ := trodAll_cons r1
  obtain ⟨v3, vs3, d3, ds3, p3, q3, rfl, rfl, rfl, h3, r3⟩ := trodAll_cons r2
  obtain ⟨v4, vs4, d4, ds4, p4, q4, rfl, rfl, rfl, h4, r4⟩ := trodAll_cons r3
  obtain ⟨rfl, rfl, rfl⟩ := trodAll_nil r4
  obtain ⟨rfl, rfl⟩ := trodVars_none hV
  obtain rfl : args = #[v0, v1, v2, v3, v4] := by cases args; simp_all
  obtain ⟨cs0, rfl, _⟩ := okWide_struct Tryz.underlying53 (hval 0 _ v0 rfl rfl)
  obtain ⟨fuel0, h0⟩ := h0
  obtain ⟨A1_0, n1_0, c1_0, home_0, A2_0, n2_0, c2_0, A3_0, n3_0, c3_0, s_0, e0, hs0⟩ := open_sky h0
  obtain ⟨cs0⟩ := cs0
  obtain rfl : cs0 = _ := e0
  obtain ⟨m1, rfl⟩ := okWide_int Tryz.underlying2 (hval 1 _ v1 rfl rfl)
  obtain ⟨A2, len2, cap2, rfl⟩ := okWide_slice Tryz.underlying39 (hval 2 _ v2 rfl rfl)
  obtain ⟨fuel2, h2⟩ := h2
  obtain ⟨A_2, n_2, c_2, l_2, e2, hl2, hc2⟩ := open_boxes h2
  injection e2 with e2 _; injection e2 with e2a e2b e2c; subst e2a e2b e2c
  obtain ⟨A3, len3, cap3, rfl⟩ := okWide_slice Tryz.underlying70 (hval 3 _ v3 rfl rfl)
  obtain ⟨fuel3, h3⟩ := h3
  obtain ⟨A_3, n_3, c_3, l_3, e3, hl3⟩ := open_sights h3
  injection e3 with e3 _; injection e3 with e3a e3b e3c; subst e3a e3b e3c
  obtain ⟨m4, rfl⟩ := okWide_int Tryz.underlying3 (hval 4 _ v4 rfl rfl)
  refine (OrbitFilters_c A1_0 n1_0 c1_0 home_0 A2_0 n2_0 c2_0 A3_0 n3_0 c3_0 s_0 _ A2 len2 cap2 l_2 A3 len3 cap3 l_3 _ W hs0  hl2 hc2 hl3 ).mono fun e W' ⟨he, hb⟩ => ?_
  subst he
  exact ⟨_, rfl, law_post (by kernel_rfl) rfl rfl hW' rfl hb⟩

end Go.Proofs.YtfniicgoeljmdaaGreat
