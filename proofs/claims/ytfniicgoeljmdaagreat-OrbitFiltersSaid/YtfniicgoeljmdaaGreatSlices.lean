/- Quotients, squares and roots of spans: the program. No condition. Slices that a block of cells makes: numbers, spans, areas, boxes. No condition. -/
import Derived.Test.YtfniicgoeljmdaaGreatSpanRoot
import Derived.Test.YtfniicgoeljmdaaGreatMonoLaw
import Derived.Test.YtfniicgoeljmdaaGreatSame
namespace Go.Proofs.YtfniicgoeljmdaaGreat
open Go.RowKit

set_option maxHeartbeats 1000000 in
theorem spIn_c (lo hi n : Int) (w : World) (h0 : spErr ⟨lo, hi⟩ = 0) :
    Calls Tryz.prog 267 #[.agg #[.int .i64 lo, .int .i64 hi], .int .i64 n] w fun e w' => e = .returned (.bool (within n lo hi)) ∧ Ext w w' := by
  have H1 := Lib.hid fun W => spCheck_c lo hi W
  rw [h0] at H1
  have H2 := Lib.hid fun W => sp_within_c n lo hi W
  generalize within n lo hi = b at *
  clear h0
  go_enter Tryz.func267, Tryz.ntmps267
  go_wp2_with fail
  refine (H1.out _).mono ?_
  rintro e w1 ⟨rfl, h1⟩
  obtain ⟨hc_w1, hf_w1, hz_w1⟩ := bcell h1; (repeat (first | rw [World.size_alloc] at hz_w1 | rw [World.size_drew] at hz_w1 | rw [World.size_setCell] at hz_w1)); (try (have : w.heap.size < w1.heap.size := (by omega))); (try (have : w.heap.size + 1 < w1.heap.size := (by omega))); (try (have : w.heap.size + 1 + 1 < w1.heap.size := (by omega))); (try (have : w.heap.size + 1 + 1 + 1 < w1.heap.size := (by omega))); (try (have : w.heap.size + 1 + 1 + 1 + 1 < w1.heap.size := (by omega)))
  go_wp2_with fail
  refine (H2.out _).mono ?_
  rintro e _ ⟨rfl, rfl⟩
  go_wp2_with fail
  go_ret
  exact ⟨rfl, by (repeat' (first | exact Ext.refl _ | assumption | apply Ext.alloc | apply Ext.drew | refine Ext.set ?_ (by dsimp only; omega) _ | refine Ext.trans ?_ (by assumption)))⟩
set_option maxHeartbeats 1000000 in
theorem spQuot_c (al ah bl bh : Int) (w : World) :
    Calls Tryz.prog 249 #[.agg #[.int .i64 al, .int .i64 ah], .agg #[.int .i64 bl, .int .i64 bh]] w fun e w' => e = .returned (spRV (quotM ⟨al, ah⟩ ⟨bl, bh⟩)) ∧ Ext w w' := by
  have HV := Lib.hid fun W => spValid_c al ah bl bh W
  by_cases h0 : sp2Err ⟨al, ah⟩ ⟨bl, bh⟩ = 0
  · obtain ⟨hp, h1⟩ := pairs_i64 h0
    have HI := Lib.hid fun W => spIn_c bl bh 0 W (spErr_ok.2 (by dsimp only; omega))
    rw [h0] at HV
    unfold quotM
    rw [if_pos h0]
    by_cases hz : within 0 bl bh = true
    · rw [if_pos hz]
      rw [hz] at HI
      clear h0 hp h1 hz
      go_enter Tryz.func249, Tryz.ntmps249
      go_wp2_with fail
      refine (HV.out _).mono ?_
      rintro e w1 ⟨rfl, h1⟩
      obtain ⟨hc_w1, hf_w1, hz_w1⟩ := bcell h1; (repeat (first | rw [World.size_alloc] at hz_w1 | rw [World.size_drew] at hz_w1 | rw [World.size_setCell] at hz_w1)); (try (have : w.heap.size < w1.heap.size := (by omega))); (try (have : w.heap.size + 1 < w1.heap.size := (by omega))); (try (have : w.heap.size + 1 + 1 < w1.heap.size := (by omega))); (try (have : w.heap.size + 1 + 1 + 1 < w1.heap.size := (by omega))); (try (have : w.heap.size + 1 + 1 + 1 + 1 < w1.heap.size := (by omega)))
      go_wp2_with fail
      refine (HI.out _).mono ?_
      rintro e w2 ⟨rfl, h2⟩
      obtain ⟨hc_w2, hf_w2, hz_w2⟩ := bcell h2; (repeat (first | rw [World.size_alloc] at hz_w2 | rw [World.size_drew] at hz_w2 | rw [World.size_setCell] at hz_w2)); (try (have : w.heap.size < w2.heap.size := (by omega))); (try (have : w.heap.size + 1 < w2.heap.size := (by omega))); (try (have : w.heap.size + 1 + 1 < w2.heap.size := (by omega))); (try (have : w.heap.size + 1 + 1 + 1 < w2.heap.size := (by omega))); (try (have : w.heap.size + 1 + 1 + 1 + 1 < w2.heap.size := (by omega)))
      go_wp2_with fail
      (try simp only [Exit.inBlock, Exit.then]); apply bodyPost_ret; (focus (simp only [results, Tryz.results249]; go_simp; try rfl)); rfl
      exact ⟨rfl, by (repeat' (first | exact Ext.refl _ | assumption | apply Ext.alloc | apply Ext.drew | refine Ext.set ?_ (by dsimp only; omega) _ | refine Ext.trans ?_ (by assumption)))⟩
    · rw [if_neg hz]
      have hz' : within 0 bl bh = false := by simpa using hz
      rw [hz'] at HI
      have hy : ∀ p ∈ pairsV al ah bl bh, p.2 ≠ 0 := by
        intro p hp
        simp only [pairsV, List.mem_cons, List.not_mem_nil, or_false] at hp
        unfold within at hz'
        simp only [Bool.and_eq_false_imp, decide_eq_true_eq, decide_eq_false_iff_not] at hz'
        rcases hp with rfl | rfl | rfl | rfl
        all_goals dsimp only
        all_goals omega
      have H : Hid (∀ W, Calls Tryz.prog 268 #[.agg #[.int .i64 al, .int .i64 ah], .agg #[.int .i64 bl, .int .i64 bh], .func (.func 269) #[] #[]] W fun e w' => e = .returned (spRV (combM quotF ⟨al, ah⟩ ⟨bl, bh⟩)) ∧ Ext W w') := Lib.hid fun W =>
        spCombine_ok al ah bl bh _ #[] quotF W h0 Tryz.call269 fun p h W2 _ => spQuot1_c p.1 p.2 W2 (hp p h).1 (hp p h).2 (hy p h)
      generalize combM _ _ _ = R at *
      obtain ⟨⟨rl, rh⟩, re⟩ := R
      clear h0 hp h1 hz hz' hy
      go_enter Tryz.func249, Tryz.ntmps249
      go_wp2_with fail
      refine (HV.out _).mono ?_
      rintro e w1 ⟨rfl, h1⟩
      obtain ⟨hc_w1, hf_w1, hz_w1⟩ := bcell h1; (repeat (first | rw [World.size_alloc] at hz_w1 | rw [World.size_drew] at hz_w1 | rw [World.size_setCell] at hz_w1)); (try (have : w.heap.size < w1.heap.size := (by omega))); (try (have : w.heap.size + 1 < w1.heap.size := (by omega))); (try (have : w.heap.size + 1 + 1 < w1.heap.size := (by omega))); (try (have : w.heap.size + 1 + 1 + 1 < w1.heap.size := (by omega))); (try (have : w.heap.size + 1 + 1 + 1 + 1 < w1.heap.size := (by omega)))
      go_wp2_with fail
      refine (HI.out _).mono ?_
      rintro e w2 ⟨rfl, h2⟩
      obtain ⟨hc_w2, hf_w2, hz_w2⟩ := bcell h2; (repeat (first | rw [World.size_alloc] at hz_w2 | rw [World.size_drew] at hz_w2 | rw [World.size_setCell] at hz_w2)); (try (have : w.heap.size < w2.heap.size := (by omega))); (try (have : w.heap.size + 1 < w2.heap.size := (by omega))); (try (have : w.heap.size + 1 + 1 < w2.heap.size := (by omega))); (try (have : w.heap.size + 1 + 1 + 1 < w2.heap.size := (by omega))); (try (have : w.heap.size + 1 + 1 + 1 + 1 < w2.heap.size := (by omega)))
      go_wp2_with fail
      refine (H.out _).mono ?_
      rintro e w3 ⟨rfl, h3⟩
      obtain ⟨hc_w3, hf_w3, hz_w3⟩ := bcell h3; (repeat (first | rw [World.size_alloc] at hz_w3 | rw [World.size_drew] at hz_w3 | rw [World.size_setCell] at hz_w3)); (try (have : w.heap.size < w3.heap.size := (by omega))); (try (have : w.heap.size + 1 < w3.heap.size := (by omega))); (try (have : w.heap.size + 1 + 1 < w3.heap.size := (by omega))); (try (have : w.heap.size + 1 + 1 + 1 < w3.heap.size := (by omega))); (try (have : w.heap.size + 1 + 1 + 1 + 1 < w3.heap.size := (by omega)))
      go_wp2_with fail
      (try simp only [Exit.inBlock, Exit.then]); apply bodyPost_ret; (focus (simp only [results, Tryz.results249]; go_simp; try rfl)); rfl
      exact ⟨rfl, by (repeat' (first | exact Ext.refl _ | assumption | apply Ext.alloc | apply Ext.drew | refine Ext.set ?_ (by dsimp only; omega) _ | refine Ext.trans ?_ (by assumption)))⟩
  · unfold quotM
    rw [if_neg h0]
    generalize sp2Err ⟨al, ah⟩ ⟨bl, bh⟩ = E at *
    go_enter Tryz.func249, Tryz.ntmps249
    go_wp2_with fail
    refine (HV.out _).mono ?_
    rintro e w1 ⟨rfl, h1⟩
    obtain ⟨hc_w1, hf_w1, hz_w1⟩ := bcell h1; (repeat (first | rw [World.size_alloc] at hz_w1 | rw [World.size_drew] at hz_w1 | rw [World.size_setCell] at hz_w1)); (try (have : w.heap.size < w1.heap.size := (by omega))); (try (have : w.heap.size + 1 < w1.heap.size := (by omega))); (try (have : w.heap.size + 1 + 1 < w1.heap.size := (by omega))); (try (have : w.heap.size + 1 + 1 + 1 < w1.heap.size := (by omega))); (try (have : w.heap.size + 1 + 1 + 1 + 1 < w1.heap.size := (by omega)))
    go_wp2_with fail
    (try simp only [Exit.inBlock, Exit.then]); apply bodyPost_ret; (focus (simp only [results, Tryz.results249]; go_simp; try rfl)); rfl
    exact ⟨rfl, by (repeat' (first | exact Ext.refl _ | assumption | apply Ext.alloc | apply Ext.drew | refine Ext.set ?_ (by dsimp only; omega) _ | refine Ext.trans ?_ (by assumption)))⟩
set_option maxRecDepth 20000 in
set_option maxHeartbeats 2000000 in
theorem spSquare_c (lo hi : Int) (w : World) :
    Calls Tryz.prog 262 #[.agg #[.int .i64 lo, .int .i64 hi]] w fun e w' => e = .returned (spRV (squareM ⟨lo, hi⟩)) ∧ Ext w w' := by
  have HV := Lib.hid fun W => spCheck_c lo hi W
  unfold squareM
  by_cases h0 : spErr ⟨lo, hi⟩ = 0
  · obtain ⟨h1, h2, h3⟩ := spErr_ok.1 h0
    dsimp only at h1 h2 h3
    rw [if_pos h0]
    rw [h0] at HV
    have hhm : highM ⟨lo, hi⟩ = max (-lo) hi := rfl
    rw [hhm]
    obtain ⟨L, hL, hc⟩ : ∃ L, lowM ⟨lo, hi⟩ = L ∧ ((L = 0 ∧ lo ≤ 0 ∧ 0 ≤ hi) ∨ (L = lo ∧ 0 < lo) ∨ (L = -hi ∧ hi < 0)) := by
      refine ⟨_, rfl, ?_⟩
      unfold lowM
      dsimp only
      omega
    rw [hL]
    have hLb : 0 ≤ L ∧ L ≤ max (-lo) hi := by omega
    have m1 : 0 ≤ L * L := Int.mul_nonneg hLb.1 hLb.1
    have m2 : L * L ≤ max (-lo) hi * max (-lo) hi := Int.mul_le_mul hLb.2 hLb.2 hLb.1 (by omega)
    clear h0 hhm hL
    by_cases hu : 1073741824 < max (-lo) hi
    · rw [if_pos hu]
      clear m1 m2 hLb
      rcases hc with ⟨rfl, k1, k2⟩ | ⟨rfl, k1⟩ | ⟨rfl, k1⟩
      all_goals
        go_enter Tryz.func262, Tryz.ntmps262
        go_wp2_with fail
        refine (HV.out _).mono ?_
        rintro e w1 ⟨rfl, h1⟩
        obtain ⟨hc_w1, hf_w1, hz_w1⟩ := bcell h1; (repeat (first | rw [World.size_alloc] at hz_w1 | rw [World.size_drew] at hz_w1 | rw [World.size_setCell] at hz_w1)); (try (have : w.heap.size < w1.heap.size := (by omega))); (try (have : w.heap.size + 1 < w1.heap.size := (by omega))); (try (have : w.heap.size + 1 + 1 < w1.heap.size := (by omega))); (try (have : w.heap.size + 1 + 1 + 1 < w1.heap.size := (by omega))); (try (have : w.heap.size + 1 + 1 + 1 + 1 < w1.heap.size := (by omega)))
        go_wp2_with fail
        refine wp_region_text (by kernel_rfl) (by kernel_rfl) ?_
        (repeat' (first | (refine bl_off (by rfl) ?_; simp only [Act.put, List.setIfInBounds_toArray, List.set_cons_zero, List.set_cons_succ]) | (apply bl_op; rfl; (intro w1 h1; obtain ⟨hc, hf, hz⟩ := bcell h1; go_simp; (try go_bits); (first | exact ⟨rfl, Ext.refl _⟩)); simp only [Act.put, List.setIfInBounds_toArray, List.set_cons_zero, List.set_cons_succ]) | (refine bl_split rfl rfl (fun hx => ?_) (fun hx => ?_) <;> simp only [hx])))
        refine bl_nil ?_
        intro w2 h2
        obtain ⟨hc_w2, hf_w2, hz_w2⟩ := bcell h2; (repeat (first | rw [World.size_alloc] at hz_w2 | rw [World.size_drew] at hz_w2 | rw [World.size_setCell] at hz_w2)); (try (have : w.heap.size < w2.heap.size := (by omega))); (try (have : w.heap.size + 1 < w2.heap.size := (by omega))); (try (have : w.heap.size + 1 + 1 < w2.heap.size := (by omega))); (try (have : w.heap.size + 1 + 1 + 1 < w2.heap.size := (by omega))); (try (have : w.heap.size + 1 + 1 + 1 + 1 < w2.heap.size := (by omega)))
        go_wp2_with fail
        (try simp only [Exit.inBlock, Exit.then]); apply bodyPost_ret; (focus (simp only [results, Tryz.results262]; go_simp; try rfl)); rfl
        exact ⟨rfl, by (repeat' (first | exact Ext.refl _ | assumption | apply Ext.alloc | apply Ext.drew | refine Ext.set ?_ (by dsimp only; omega) _ | refine Ext.trans ?_ (by assumption)))⟩
    · rw [if_neg hu]
      have m3 : max (-lo) hi * max (-lo) hi ≤ 1152921504606846976 := by
        have := Int.mul_le_mul (show max (-lo) hi ≤ 1073741824 by omega) (show max (-lo) hi ≤ (1073741824 : Int) by omega) (by omega) (by omega)
        omega
      have HE := Lib.hid fun W => ends_c (L * L) (max (-lo) hi * max (-lo) hi) W
      generalize endsM _ _ = R at *
      obtain ⟨⟨rl, rh⟩, re⟩ := R
      rcases hc with ⟨rfl, k1, k2⟩ | ⟨rfl, k1⟩ | ⟨rfl, k1⟩
      all_goals
        go_enter Tryz.func262, Tryz.ntmps262
        go_wp2_with fail
        refine (HV.out _).mono ?_
        rintro e w1 ⟨rfl, h1⟩
        obtain ⟨hc_w1, hf_w1, hz_w1⟩ := bcell h1; (repeat (first | rw [World.size_alloc] at hz_w1 | rw [World.size_drew] at hz_w1 | rw [World.size_setCell] at hz_w1)); (try (have : w.heap.size < w1.heap.size := (by omega))); (try (have : w.heap.size + 1 < w1.heap.size := (by omega))); (try (have : w.heap.size + 1 + 1 < w1.heap.size := (by omega))); (try (have : w.heap.size + 1 + 1 + 1 < w1.heap.size := (by omega))); (try (have : w.heap.size + 1 + 1 + 1 + 1 < w1.heap.size := (by omega)))
        go_wp2_with fail
        refine wp_region_text (by kernel_rfl) (by kernel_rfl) ?_
        (repeat' (first | (refine bl_off (by rfl) ?_; simp only [Act.put, List.setIfInBounds_toArray, List.set_cons_zero, List.set_cons_succ]) | (apply bl_op; rfl; (intro w1 h1; obtain ⟨hc, hf, hz⟩ := bcell h1; go_simp; (try go_bits); (first | exact ⟨rfl, Ext.refl _⟩)); simp only [Act.put, List.setIfInBounds_toArray, List.set_cons_zero, List.set_cons_succ]) | (refine bl_split rfl rfl (fun hx => ?_) (fun hx => ?_) <;> simp only [hx])))
        refine bl_nil ?_
        intro w2 h2
        obtain ⟨hc_w2, hf_w2, hz_w2⟩ := bcell h2; (repeat (first | rw [World.size_alloc] at hz_w2 | rw [World.size_drew] at hz_w2 | rw [World.size_setCell] at hz_w2)); (try (have : w.heap.size < w2.heap.size := (by omega))); (try (have : w.heap.size + 1 < w2.heap.size := (by omega))); (try (have : w.heap.size + 1 + 1 < w2.heap.size := (by omega))); (try (have : w.heap.size + 1 + 1 + 1 < w2.heap.size := (by omega))); (try (have : w.heap.size + 1 + 1 + 1 + 1 < w2.heap.size := (by omega)))
        go_wp2_with fail
        refine (HE.out _).mono ?_
        rintro e w3 ⟨rfl, h3⟩
        obtain ⟨hc_w3, hf_w3, hz_w3⟩ := bcell h3; (repeat (first | rw [World.size_alloc] at hz_w3 | rw [World.size_drew] at hz_w3 | rw [World.size_setCell] at hz_w3)); (try (have : w.heap.size < w3.heap.size := (by omega))); (try (have : w.heap.size + 1 < w3.heap.size := (by omega))); (try (have : w.heap.size + 1 + 1 < w3.heap.size := (by omega))); (try (have : w.heap.size + 1 + 1 + 1 < w3.heap.size := (by omega))); (try (have : w.heap.size + 1 + 1 + 1 + 1 < w3.heap.size := (by omega)))
        go_wp2_with fail
        (try simp only [Exit.inBlock, Exit.then]); apply bodyPost_ret; (focus (simp only [results, Tryz.results262]; go_simp; try rfl)); rfl
        exact ⟨rfl, by (repeat' (first | exact Ext.refl _ | assumption | apply Ext.alloc | apply Ext.drew | refine Ext.set ?_ (by dsimp only; omega) _ | refine Ext.trans ?_ (by assumption)))⟩
  · rw [if_neg h0]
    generalize spErr ⟨lo, hi⟩ = E at *
    go_enter Tryz.func262, Tryz.ntmps262
    go_wp2_with fail
    refine (HV.out _).mono ?_
    rintro e w1 ⟨rfl, h1⟩
    obtain ⟨hc_w1, hf_w1, hz_w1⟩ := bcell h1; (repeat (first | rw [World.size_alloc] at hz_w1 | rw [World.size_drew] at hz_w1 | rw [World.size_setCell] at hz_w1)); (try (have : w.heap.size < w1.heap.size := (by omega))); (try (have : w.heap.size + 1 < w1.heap.size := (by omega))); (try (have : w.heap.size + 1 + 1 < w1.heap.size := (by omega))); (try (have : w.heap.size + 1 + 1 + 1 < w1.heap.size := (by omega))); (try (have : w.heap.size + 1 + 1 + 1 + 1 < w1.heap.size := (by omega)))
    go_wp2_with fail
    (try simp only [Exit.inBlock, Exit.then]); apply bodyPost_ret; (focus (simp only [results, Tryz.results262]; go_simp; try rfl)); rfl
    exact ⟨rfl, by (repeat' (first | exact Ext.refl _ | assumption | apply Ext.alloc | apply Ext.drew | refine Ext.set ?_ (by dsimp only; omega) _ | refine Ext.trans ?_ (by assumption)))⟩
end Go.Proofs.YtfniicgoeljmdaaGreat

namespace Go.Proofs.YtfniicgoeljmdaaGreat
open Go.RowKit

structure Bx where
  x : Sp
  y : Sp
  u : Sp
  v : Sp
def spAt (w : World) (s : Sp) (b o : Nat) : Prop := w.cell? ⟨b, o, none⟩ = some (.int .i64 s.lo) ∧ w.cell? ⟨b, o + 1, none⟩ = some (.int .i64 s.hi)
def arAt (w : World) (a : Ar) (b o : Nat) : Prop := w.cell? ⟨b, o, none⟩ = some (.int .i64 a.x.lo) ∧ w.cell? ⟨b, o + 1, none⟩ = some (.int .i64 a.x.hi) ∧ w.cell? ⟨b, o + 2, none⟩ = some (.int .i64 a.y.lo) ∧ w.cell? ⟨b, o + 3, none⟩ = some (.int .i64 a.y.hi)
def bxAt (w : World) (a : Bx) (b o : Nat) : Prop := w.cell? ⟨b, o, none⟩ = some (.int .i64 a.x.lo) ∧ w.cell? ⟨b, o + 1, none⟩ = some (.int .i64 a.x.hi) ∧ w.cell? ⟨b, o + 2, none⟩ = some (.int .i64 a.y.lo) ∧ w.cell? ⟨b, o + 3, none⟩ = some (.int .i64 a.y.hi) ∧
  w.cell? ⟨b, o + 4, none⟩ = some (.int .i64 a.u.lo) ∧ w.cell? ⟨b, o + 5, none⟩ = some (.int .i64 a.u.hi) ∧ w.cell? ⟨b, o + 6, none⟩ = some (.int .i64 a.v.lo) ∧ w.cell? ⟨b, o + 7, none⟩ = some (.int .i64 a.v.hi)
abbrev Sps (w : World) (A : Option Addr) (n : Nat) (l : List Sp) : Prop := SlR 2 (spAt w) A n l
abbrev Ars (w : World) (A : Option Addr) (n : Nat) (l : List Ar) : Prop := SlR 4 (arAt w) A n l
abbrev Bxs (w : World) (A : Option Addr) (n : Nat) (l : List Bx) : Prop := SlR 8 (bxAt w) A n l
def spC (s : Sp) : List Value := [.int .i64 s.lo, .int .i64 s.hi]
def arC (a : Ar) : List Value := [.int .i64 a.x.lo, .int .i64 a.x.hi, .int .i64 a.y.lo, .int .i64 a.y.hi]
def bxC (a : Bx) : List Value := [.int .i64 a.x.lo, .int .i64 a.x.hi, .int .i64 a.y.lo, .int .i64 a.y.hi, .int .i64 a.u.lo, .int .i64 a.u.hi, .int .i64 a.v.lo, .int .i64 a.v.hi]
abbrev arV (a : Ar) : Value := .agg #[.int .i64 a.x.lo, .int .i64 a.x.hi, .int .i64 a.y.lo, .int .i64 a.y.hi]
abbrev bxV (a : Bx) : Value := .agg #[.int .i64 a.x.lo, .int .i64 a.x.hi, .int .i64 a.y.lo, .int .i64 a.y.hi, .int .i64 a.u.lo, .int .i64 a.u.hi, .int .i64 a.v.lo, .int .i64 a.v.hi]
section
variable {w w' : World} (e : Ext w w')
include e
theorem intAt.ext {p : Int} {b o : Nat} (h : intAt w p b o) : intAt w' p b o := e.cell h
theorem spAt.ext {p : Sp} {b o : Nat} (h : spAt w p b o) : spAt w' p b o := ⟨e.cell h.1, e.cell h.2⟩
theorem arAt.ext {p : Ar} {b o : Nat} (h : arAt w p b o) : arAt w' p b o := ⟨e.cell h.1, e.cell h.2.1, e.cell h.2.2.1, e.cell h.2.2.2⟩
theorem bxAt.ext {p : Bx} {b o : Nat} (h : bxAt w p b o) : bxAt w' p b o := by
  obtain ⟨h0, h1, h2, h3, h4, h5, h6, h7⟩ := h
  exact ⟨e.cell h0, e.cell h1, e.cell h2, e.cell h3, e.cell h4, e.cell h5, e.cell h6, e.cell h7⟩
theorem Sps.ext {A n l} (h : Sps w A n l) : Sps w' A n l := SlR.mono h fun _ _ _ _ => spAt.ext e
theorem Ars.ext {A n l} (h : Ars w A n l) : Ars w' A n l := SlR.mono h fun _ _ _ _ => arAt.ext e
theorem Bxs.ext {A n l} (h : Bxs w A n l) : Bxs w' A n l := SlR.mono h fun _ _ _ _ => bxAt.ext e
end
theorem flat_get {α : Type} {sz : Nat} {E : α → List Value} (hE : ∀ x, (E x).length = sz) {i : Nat} (hi : i < sz) : ∀ (l : List α) (k : Nat) (hk : k < l.length), (l.flatMap E)[k * sz + i]? = (E l[k])[i]? := by
  intro l
  induction l with
  | nil => intro k hk; simp at hk
  | cons a r ih =>
    intro k hk
    cases k with
    | zero => simp only [List.flatMap_cons, Nat.zero_mul, Nat.zero_add]; rw [List.getElem?_append_left (by rw [hE]; exact hi)]; rfl
    | succ k =>
      simp only [List.flatMap_cons]
      rw [List.getElem?_append_right (by rw [hE, Nat.succ_mul]; omega), hE]
      have e1 : (k + 1) * sz + i - sz = k * sz + i := by rw [Nat.succ_mul]; omega
      rw [e1]
      exact ih k (by simpa using hk)
/-- A block's cells as a slice. -/
theorem sl_blk {α : Type} {w : World} {b : Nat} {t : TypeId} {sz : Nat} {l : List α} {E : α → List Value} {R : α → Nat → Nat → Prop} (hE : ∀ x, (E x).length = sz)
    (hR : ∀ x b o, (∀ i u, (E x)[i]? = some u → w.cell? ⟨b, o + i, none⟩ = some u) → R x b o) (h : Blk w b t (l.flatMap E).toArray) (hn : l.length ≤ 9223372036854775807) : SlR sz R (some ⟨b, 0, none⟩) l.length l := by
  refine ⟨rfl, hn, .inr ⟨b, 0, rfl, fun k hk => hR _ _ _ fun i u hu => ?_⟩⟩
  have hi : i < sz := by
    have := (List.getElem?_eq_some_iff.1 hu).1
    rw [hE] at this; exact this
  rw [h.cell, List.getElem?_toArray, Nat.zero_add, flat_get hE hi l k hk, hu]
theorem int_read (w : World) (x : Int) (b o : Nat) (h : ∀ i u, (intC x)[i]? = some u → w.cell? ⟨b, o + i, none⟩ = some u) : intAt w x b o := h 0 _ rfl
theorem sp_read (w : World) (x : Sp) (b o : Nat) (h : ∀ i u, (spC x)[i]? = some u → w.cell? ⟨b, o + i, none⟩ = some u) : spAt w x b o := ⟨h 0 _ rfl, h 1 _ rfl⟩
theorem ar_read (w : World) (x : Ar) (b o : Nat) (h : ∀ i u, (arC x)[i]? = some u → w.cell? ⟨b, o + i, none⟩ = some u) : arAt w x b o := ⟨h 0 _ rfl, h 1 _ rfl, h 2 _ rfl, h 3 _ rfl⟩
theorem bx_read (w : World) (x : Bx) (b o : Nat) (h : ∀ i u, (bxC x)[i]? = some u → w.cell? ⟨b, o + i, none⟩ = some u) : bxAt w x b o := ⟨h 0 _ rfl, h 1 _ rfl, h 2 _ rfl, h 3 _ rfl, h 4 _ rfl, h 5 _ rfl, h 6 _ rfl, h 7 _ rfl⟩
theorem int_slice {w : World} {b : Nat} {t : TypeId} (l : List Int) (h : Blk w b t (l.flatMap intC).toArray) (hn : l.length ≤ 9223372036854775807) : Ints w (some ⟨b, 0, none⟩) l.length l := sl_blk (fun _ => rfl) (fun x b o => int_read w x b o) h hn
theorem sp_slice {w : World} {b : Nat} {t : TypeId} (l : List Sp) (h : Blk w b t (l.flatMap spC).toArray) (hn : l.length ≤ 9223372036854775807) : Sps w (some ⟨b, 0, none⟩) l.length l := sl_blk (fun _ => rfl) (fun x b o => sp_read w x b o) h hn
theorem ar_slice {w : World} {b : Nat} {t : TypeId} (l : List Ar) (h : Blk w b t (l.flatMap arC).toArray) (hn : l.length ≤ 9223372036854775807) : Ars w (some ⟨b, 0, none⟩) l.length l := sl_blk (fun _ => rfl) (fun x b o => ar_read w x b o) h hn
end Go.Proofs.YtfniicgoeljmdaaGreat
