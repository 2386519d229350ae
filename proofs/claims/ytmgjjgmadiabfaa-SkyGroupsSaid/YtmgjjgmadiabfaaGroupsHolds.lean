/- The law SkyGroups holds: for every input it returns true, and each argument reads afterwards as before. No condition. -/
import Derived.Test.YtmgjjgmadiabfaaOpen2
import Derived.Test.YtmgjjgmadiabfaaGroupsAll
namespace Go.Proofs.Ytmgjjgmadiabfaa
open Go.RowKit Go.ChangeShapes Go.WideShapes Go.ChangeAt

set_option maxRecDepth 100000 in
set_option maxHeartbeats 1000000 in
theorem groups_lifted (os : Os) (started : os.Started) (H : Type) (enc : TypeId × Value → H) :
    ReturnsInHanded {} Try.checked os 12 .any (Rows.skyGroupsSpec.pre6 enc Try.prog Try.f12 Rows.skyGroupsRow.domain false) (Rows.skyGroupsSpec.post enc Try.prog Try.f12 false true false false) := by
  refine returnsInHanded_of_change (C := Try.checked) own started (by kernel_rfl) Try.func12
    (ChangeSpec.witness6 (enc := enc) (C := Try.checked) false ⟨#[], #[.agg #[.slice none 0 0, .int .i64 0, .slice none 0 0, .slice none 0 0], .slice none 0 0, .slice none 0 0, .int .i64 0], []⟩ 8 (by kernel_rfl) (by kernel_rfl) (by kernel_rfl) (by kernel_rfl)) ?_
  intro W base args ds gs before hval0 hW _ _
  have hval : ∀ (j : Nat) t v, Try.f12.params[j]? = some t → args[j]? = some v → Value.okWide Try.prog W .any base t v := hval0
  have hW' := hW
  obtain ⟨p, q, hA0, hV, rfl, hfz, hnd⟩ := hW
  have hA : DataW.TrodAll enc Try.prog W 0 (fun _ => true) true Try.f12.params.toList args.toList ds p := hA0
  rw [Try.params12] at hA hval
  obtain ⟨v0, vs0, d0, ds0, p0, q0, hargs, rfl, rfl, h0, r0⟩ := trodAll_cons hA
  obtain ⟨v1, vs1, d1, ds1, p1, q1, rfl, rfl, rfl, h1, r1⟩ := trodAll_cons r0
  obtain ⟨v2, vs2, d2, ds2, p2, q2, rfl, rfl, rfl, h2, r2⟩ := trodAll_cons r1
  obtain ⟨v3, vs3, d3, ds3, p3, q3, rfl, rfl, rfl, h3, r3⟩ := trodAll_cons r2
  obtain ⟨rfl, rfl, rfl⟩ := trodAll_nil r3
  obtain ⟨rfl, rfl⟩ := trodVars_none hV
  obtain rfl : args = #[v0, v1, v2, v3] := by cases args; simp_all
  obtain ⟨cs0, rfl, _⟩ := okWide_struct Try.underlying28 (hval 0 _ v0 rfl rfl)
  obtain ⟨fuel0, h0⟩ := h0
  obtain ⟨A1_0, n1_0, c1_0, home_0, A2_0, n2_0, c2_0, A3_0, n3_0, c3_0, s_0, e0, hs0⟩ := open_sky h0
  obtain ⟨cs0⟩ := cs0
  obtain rfl : cs0 = _ := e0
  obtain ⟨A1, len1, cap1, rfl⟩ := okWide_slice Try.underlying74 (hval 1 _ v1 rfl rfl)
  obtain ⟨fuel1, h1⟩ := h1
  obtain ⟨A_1, n_1, c_1, l_1, e1, hl1⟩ := open_trks h1
  injection e1 with e1 _; injection e1 with e1a e1b e1c; subst e1a e1b e1c
  obtain ⟨A2, len2, cap2, rfl⟩ := okWide_slice Try.underlying69 (hval 2 _ v2 rfl rfl)
  obtain ⟨fuel2, h2⟩ := h2
  obtain ⟨A_2, n_2, c_2, l_2, e2, hl2⟩ := open_states h2
  injection e2 with e2 _; injection e2 with e2a e2b e2c; subst e2a e2b e2c
  obtain ⟨m3, rfl⟩ := okWide_int Try.underlying2 (hval 3 _ v3 rfl rfl)
  refine (SkyGroups_c A1_0 n1_0 c1_0 home_0 A2_0 n2_0 c2_0 A3_0 n3_0 c3_0 s_0 A1 len1 cap1 l_1 A2 len2 cap2 l_2 _ W hs0 hl1 hl2 ).mono fun e W' ⟨he, hb⟩ => ?_
  subst he
  exact ⟨_, rfl, law_post (by kernel_rfl) rfl rfl hW' rfl hb⟩

theorem groups_holds : Rows.SkyGroupsSaid :=
  OpenClaim.holds_of_wide 12 Try.f12 rfl rfl rfl rfl rfl rfl rfl ⟨rfl, rfl, rfl, rfl, rfl⟩ rfl rfl rfl rfl rfl (by kernel_rfl) Try.func12 (by kernel_rfl)
    (of_decide_eq_true (by kernel_rfl)) (by unfold Func.isWrapper; first | (rw [if_pos (by decide +kernel)]; kernel_rfl) | (rw [if_neg (by decide +kernel)]; exact ⟨rfl, rfl⟩))
    (fun os started H enc _ => groups_lifted os started H enc)

end Go.Proofs.Ytmgjjgmadiabfaa
