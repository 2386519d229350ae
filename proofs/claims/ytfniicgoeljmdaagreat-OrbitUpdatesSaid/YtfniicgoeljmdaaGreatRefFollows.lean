/- Possible successors: the reference. No condition. -/
import Derived.Test.YtfniicgoeljmdaaGreatRefOver
import Derived.Test.YtfniicgoeljmdaaGreatAwakeFour
import Derived.Test.YtfniicgoeljmdaaGreatRefBox
namespace Go.Proofs.YtfniicgoeljmdaaGreat
open Go.RowKit

set_option maxHeartbeats 400000 in
theorem rWorld_c (A : Option Addr) (n c : Nat) (home : Int) (l : List Body) (ll lh hl hh g : Int) (w : World) (hw : Bodies w A n l) :
    Calls Tryz.prog 70 #[.agg #[.slice A n c, .int .i64 home], .agg #[.int .i64 ll, .int .i64 lh, .int .i64 hl, .int .i64 hh, .int .i64 g]] w fun e w' => e = .returned (.int .i64 (wdErr l home ⟨⟨ll, lh⟩, ⟨hl, hh⟩, g⟩)) ∧ Ext w w' := by
  have H1 := Lib.hid fun W (hW : Ext w W) => refWorld_c A n c home l W (Bodies.ext hW hw)
  have H2 := Lib.hid fun W => gCheckDrift_c ll lh hl hh g W
  unfold wdErr
  clear hw
  generalize wldErr ⟨l, home⟩ = E1 at *
  generalize driftErr ⟨⟨ll, lh⟩, ⟨hl, hh⟩, g⟩ = E2 at *
  by_cases h1 : E1 = 0
  · subst h1
    rw [if_pos rfl]
    go_enter Tryz.func70, Tryz.ntmps70
    go_wp2_with fail
    refine (H1.out _ ext_by).mono ?_
    rintro e w1 ⟨rfl, h1⟩
    obtain ⟨hc_w1, hf_w1, hz_w1⟩ := bcell h1; (try simp only [szA] at hz_w1); (try have := wz0 w w1); (try have := wz1 w w1); (try have := wz2 w w1); (try have := wz3 w w1); (try have := wz4 w w1)
    go_wp2_with fail
    refine (H2.out _).mono ?_
    rintro e w2 ⟨rfl, h2⟩
    obtain ⟨hc_w2, hf_w2, hz_w2⟩ := bcell h2; (try simp only [szA] at hz_w2); (try have := wz0 w w2); (try have := wz1 w w2); (try have := wz2 w w2); (try have := wz3 w w2); (try have := wz4 w w2)
    go_wp2_with fail
    go_ret
    exact ⟨rfl, ext_by⟩
  · rw [if_neg h1]
    go_enter Tryz.func70, Tryz.ntmps70
    go_wp2_with fail
    refine (H1.out _ ext_by).mono ?_
    rintro e w1 ⟨rfl, h1⟩
    obtain ⟨hc_w1, hf_w1, hz_w1⟩ := bcell h1; (try simp only [szA] at hz_w1); (try have := wz0 w w1); (try have := wz1 w w1); (try have := wz2 w w1); (try have := wz3 w w1); (try have := wz4 w w1)
    go_wp2_with fail
    go_ret
    exact ⟨rfl, ext_by⟩
end Go.Proofs.YtfniicgoeljmdaaGreat
