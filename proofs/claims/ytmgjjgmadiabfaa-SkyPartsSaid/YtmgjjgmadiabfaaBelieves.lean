/- The law SkyBelieves: for every input it returns true. No condition. -/
import Derived.Test.YtmgjjgmadiabfaaRefBelieve
import Derived.Test.YtmgjjgmadiabfaaSameInts
namespace Go.Proofs.Ytmgjjgmadiabfaa
open Go.RowKit

theorem sight_len (x : Sight) : (sightC x).length = 9 := rfl
theorem sight_news (w : World) (x : Sight) (b o : Nat) (h : sightAt w x b o) : ∀ i u, (sightC x)[i]? = some u → w.cell? ⟨b, o + i, none⟩ = some u := by
  obtain ⟨h0, h1, h2, h3, h4, h5, h6, h7, h8⟩ := h
  intro i u hu
  match i, hu with
  | 0, hu => rw [← hu]; exact h0
  | 1, hu => rw [← hu]; exact h1
  | 2, hu => rw [← hu]; exact h2
  | 3, hu => rw [← hu]; exact h3
  | 4, hu => rw [← hu]; exact h4
  | 5, hu => rw [← hu]; exact h5
  | 6, hu => rw [← hu]; exact h6
  | 7, hu => rw [← hu]; exact h7
  | 8, hu => rw [← hu]; exact h8
theorem sight_read (w : World) (x : Sight) (b o : Nat) (h : ∀ i u, (sightC x)[i]? = some u → w.cell? ⟨b, o + i, none⟩ = some u) : sightAt w x b o := ⟨h 0 _ rfl, h 1 _ rfl, h 2 _ rfl, h 3 _ rfl, h 4 _ rfl, h 5 _ rfl, h 6 _ rfl, h 7 _ rfl, h 8 _ rfl⟩
theorem sight_one : ∀ x : Sight, ∀ u ∈ sightC x, u.oneCell' = true := by intro x u hu; simp [sightC] at hu; rcases hu with rfl | rfl | rfl | rfl | rfl | rfl | rfl | rfl | rfl <;> rfl
theorem info_sight : (Try.prog.info? 32).map (fun i => (i.zero, i.size, i.bytes)) = some (some (.agg #[.int .i64 0, .int .i64 0, .int .i64 0, .int .i64 0, .int .i64 0, .int .i64 0, .int .i64 0, .int .i64 0, .int .i64 0]), 9, 72) := by kernel_rfl

set_option maxRecDepth 4000 in
set_option maxHeartbeats 2000000 in
theorem SkyBelieves_c (A1 : Option Addr) (n1 c1 : Nat) (home : Int) (A2 : Option Addr) (n2 c2 : Nat) (A3 : Option Addr) (n3 c3 : Nat) (s : Sky) (A : Option Addr) (n c : Nat) (l : List Sight) (B : Option Addr) (m d : Nat) (gs : List St) (t0 : Int) (w : World) (hs : IsSky w A1 n1 home A2 n2 A3 n3 s) (hl : Sights w A n l) (hg : Sts w B m gs) :
    Calls Try.prog 10 #[.agg #[.slice A1 n1 c1, .int .i64 home, .slice A2 n2 c2, .slice A3 n3 c3], .slice A n c, .slice B m d, .int .i64 t0] w fun e w' => e = .returned (.bool true) ∧ Ext w w' := by
  have hm := hg.le
  have HB := Lib.hid fun A' c' W (hW : Ext w W) h => big_c A1 n1 c1 home A2 n2 c2 A3 n3 c3 s B m d A' 1 c' [l] W (hs.ext hW) hm h
  have HH := Lib.hid fun W (hW : Ext w W) => Sights.ext hW hl
  have HF := Lib.hid fun W (hW : Ext w W) A' c' (h : Sights W A' l.length l) => Believe_c A1 n1 c1 home A2 n2 c2 A3 n3 c3 s A' l.length c' l B m d gs t0 W (hs.ext hW) h (Sts.ext hW hg)
  have HR := Lib.hid fun W (hW : Ext w W) => refBelieve_c A1 n1 c1 home A2 n2 c2 A3 n3 c3 s A n c l B m d gs t0 W (hs.ext hW) (Sights.ext hW hl) (Sts.ext hW hg)
  have Hln := Lib.hid hl.len
  cases hbig : bigM s m [l]
  · rw [hbig] at HB
    have hn66 : n ≤ 66 := by
      rw [hl.len]
      unfold bigM at hbig
      simp at hbig
      omega
    obtain ⟨is_, his, hs0, hs1, hs2⟩ := info_parts info_sight
    generalize believeN s l gs t0 = M1 at *
    generalize believeL s l gs t0 = M2 at *
    generalize believeE s l gs t0 = M3 at *
    clear hs hg hbig hl
    go_enter Try.func10, Try.ntmps10
    go_wp2_with fail
    refine (HB.out _ _ _ (by (repeat' (first | exact Ext.refl _ | assumption | apply Ext.alloc | apply Ext.drew | refine Ext.set ?_ (by dsimp only; omega) _ | refine Ext.trans ?_ (by assumption)))) ?_).mono ?_
    · refine ⟨rfl, by decide, .inr ⟨_, 0, rfl, one_ (P := fun x k => trkAt _ x _ (0 + k * 1)) ⟨A, n, c, by exact (Blk.newAt (by simp)).cell 0, HH.out _ (by (repeat' (first | exact Ext.refl _ | assumption | apply Ext.alloc | apply Ext.drew | refine Ext.set ?_ (by dsimp only; omega) _ | refine Ext.trans ?_ (by assumption))))⟩⟩⟩
    rintro e w1 ⟨rfl, h1⟩; obtain ⟨hc_w1, hf_w1, hz_w1⟩ := bcell h1; (repeat (first | rw [World.size_alloc] at hz_w1 | rw [World.size_drew] at hz_w1 | rw [World.size_setCell] at hz_w1)); have : w.heap.size < w1.heap.size := (by omega)
    go_wp2_with (at_builtin; go_loud (refine wpList_append_sl rfl (.tmp 23) (.tmp 24) 51 rfl (w.heap.size + 1) 32 is_ _ 9 72 Try.underlying51 his hs0 hs1 hs2 rfl (by decide) _ 0 [] rfl (own_made (by simp) (by omega)) A n c (l.flatMap sightC) rfl (by rw [flat_len sight_len, ← Hln.out]) (sl_news sight_len (sight_news _) (HH.out _ (by (repeat' (first | exact Ext.refl _ | assumption | apply Ext.alloc | apply Ext.drew | refine Ext.set ?_ (by dsimp only; omega) _ | refine Ext.trans ?_ (by assumption)))))) (flat_one sight_one _) (by unfold maxLen; omega) (by omega) (by simp; omega) ?_))
    intro v2 w2 ho2 hg2 hn2
    (try simp only [Nat.zero_add, List.nil_append] at ho2)
    have e2 := grown_ext (w0 := w1) (Ext.alloc0 _ _) hg2 (by intro j hj; simp [Value.ownBlock] at hj; omega)
    rw [Hln.out] at ho2
    obtain ⟨A', c', rfl, hown⟩ := own_sl sight_len (sight_read w2) ho2
    have hz2 := e2.size
    obtain ⟨hc2, hf2, _⟩ := bcell e2
    have hws : w.heap.size < w2.heap.size := by omega
    have HO := Lib.hid hown
    have hll := hown.le
    clear hown ho2 hg2 hn2
    go_wp2_with fail
    refine (HF.out _ (by (repeat' (first | exact Ext.refl _ | assumption | apply Ext.alloc | apply Ext.drew | refine Ext.set ?_ (by dsimp only; omega) _ | refine Ext.trans ?_ (by assumption)))) A' c' HO.out).mono ?_
    rintro e w3 ⟨A3', c3', rfl, hI3, h3⟩
    obtain ⟨hc3, hf3, hz3⟩ := bcell h3
    have hws3 : w.heap.size < w3.heap.size := by omega
    have HI3 := Lib.hid hI3
    clear hI3
    go_wp2_with fail
    refine (HR.out _ (by (repeat' (first | exact Ext.refl _ | assumption | apply Ext.alloc | apply Ext.drew | refine Ext.set ?_ (by dsimp only; omega) _ | refine Ext.trans ?_ (by assumption))))).mono ?_
    rintro e w4 ⟨A4', c4', rfl, hI4, h4⟩
    obtain ⟨hc4, hf4, hz4⟩ := bcell h4
    have e4 : Ext w w4 := by (repeat' (first | exact Ext.refl _ | assumption | apply Ext.alloc | apply Ext.drew | refine Ext.set ?_ (by dsimp only; omega) _ | refine Ext.trans ?_ (by assumption)))
    have HI4 := Lib.hid hI4
    clear hI4
    go_wp2_with fail
    go_loopw [16] (fun i wr => ∃ k : Nat, k ≤ n ∧ i = .int .i64 k ∧ Ext w4 wr) (fun i _ => n - (intOf i).toNat)
    case atStart => exact ⟨0, Nat.zero_le _, rfl, Ext.refl _⟩
    case round =>
      obtain ⟨k, hk, rfl, hb⟩ := hrel
      obtain ⟨hcb, hfb, hzb⟩ := bcell hb
      by_cases hlt : k < n
      · obtain ⟨b, off, x, rfl, HD, hxm, hx⟩ := (HH.out _ (e4.trans hb)).one hlt
        have hlt' : k < l.length := by rw [← Hln.out]; exact hlt
        obtain ⟨b', off', y, rfl, HD', hym, hy⟩ := (Sights.ext (h3.trans (h4.trans hb)) HO.out).one hlt'
        obtain rfl : x = y := by
          have := HD.out.symm.trans HD'.out
          injection this
        obtain ⟨hx0, hx1, hx2, hx3, hx4, hx5, hx6, hx7, hx8⟩ := hx
        obtain ⟨hy0, hy1, hy2, hy3, hy4, hy5, hy6, hy7, hy8⟩ := hy
        have hbl : b < wr.heap.size := World.block_lt_of_cell? wr _ hx0
        have hbl' : b' < wr.heap.size := World.block_lt_of_cell? wr _ hy0
        go_wp2_with fail
        refine wp_region_text (by kernel_rfl) (by kernel_rfl) ?_
        repeat' (first | (refine bl_off (by rfl) ?_; simp only [Act.put, List.setIfInBounds_toArray, List.set_cons_zero, List.set_cons_succ]) | (apply bl_op; rfl; (intro w1 h1; obtain ⟨hc, hf, hz⟩ := bcell h1; go_simp; (try go_bits); (first | exact ⟨rfl, Ext.refl _⟩)); simp only [Act.put, List.setIfInBounds_toArray, List.set_cons_zero, List.set_cons_succ]) | (refine bl_split rfl rfl (fun hx => ?_) (fun hx => ?_) <;> simp only [hx]))
        refine bl_nil ?_
        intro w5 h5
        go_wp2_with fail
        go_roundw
        case rel => exact ⟨k + 1, by omega, by go_num, by (repeat' (first | exact Ext.refl _ | assumption | apply Ext.alloc | apply Ext.drew | refine Ext.set ?_ (by dsimp only; omega) _ | refine Ext.trans ?_ (by assumption)))⟩
        case measure => simp [intOf]; omega
      · have : k = n := by omega
        subst this
        have HS := Lib.hid fun W (hW : Ext wr W) => SameInts_c A3' M2.length c3' A4' M2.length c4' M2 W (Ints.ext (h4.trans (hb.trans hW)) HI3.out) (Ints.ext (hb.trans hW) HI4.out)
        go_wp2_with fail
        refine (HS.out _ (by (repeat' (first | exact Ext.refl _ | assumption | apply Ext.alloc | apply Ext.drew | refine Ext.set ?_ (by dsimp only; omega) _ | refine Ext.trans ?_ (by assumption))))).mono ?_
        rintro e w5 ⟨rfl, h5⟩; obtain ⟨hc_w5, hf_w5, hz_w5⟩ := bcell h5; (repeat (first | rw [World.size_alloc] at hz_w5 | rw [World.size_drew] at hz_w5 | rw [World.size_setCell] at hz_w5))
        go_wp2_with fail
        refine (awake_c _).mono ?_
        rintro e w6 ⟨rfl, h6⟩; obtain ⟨hc_w6, hf_w6, hz_w6⟩ := bcell h6; (repeat (first | rw [World.size_alloc] at hz_w6 | rw [World.size_drew] at hz_w6 | rw [World.size_setCell] at hz_w6))
        go_wp2_with fail
        go_ret
        exact ⟨rfl, by (repeat' (first | exact Ext.refl _ | assumption | apply Ext.alloc | apply Ext.drew | refine Ext.set ?_ (by dsimp only; omega) _ | refine Ext.trans ?_ (by assumption)))⟩
  · rw [hbig] at HB
    clear hs hg hbig hl
    go_enter Try.func10, Try.ntmps10
    go_wp2_with fail
    refine (HB.out _ _ _ (by (repeat' (first | exact Ext.refl _ | assumption | apply Ext.alloc | apply Ext.drew | refine Ext.set ?_ (by dsimp only; omega) _ | refine Ext.trans ?_ (by assumption)))) ?_).mono ?_
    · refine ⟨rfl, by decide, .inr ⟨_, 0, rfl, one_ (P := fun x k => trkAt _ x _ (0 + k * 1)) ⟨A, n, c, by exact (Blk.newAt (by simp)).cell 0, HH.out _ (by (repeat' (first | exact Ext.refl _ | assumption | apply Ext.alloc | apply Ext.drew | refine Ext.set ?_ (by dsimp only; omega) _ | refine Ext.trans ?_ (by assumption))))⟩⟩⟩
    rintro e w1 ⟨rfl, h1⟩; obtain ⟨hc_w1, hf_w1, hz_w1⟩ := bcell h1; (repeat (first | rw [World.size_alloc] at hz_w1 | rw [World.size_drew] at hz_w1 | rw [World.size_setCell] at hz_w1)); have : w.heap.size < w1.heap.size := (by omega)
    go_wp2_with fail
    refine (awake_c _).mono ?_
    rintro e w2 ⟨rfl, h2⟩; obtain ⟨hc_w2, hf_w2, hz_w2⟩ := bcell h2; (repeat (first | rw [World.size_alloc] at hz_w2 | rw [World.size_drew] at hz_w2 | rw [World.size_setCell] at hz_w2))
    go_wp2_with fail
    go_ret
    exact ⟨rfl, by (repeat' (first | exact Ext.refl _ | assumption | apply Ext.alloc | apply Ext.drew | refine Ext.set ?_ (by dsimp only; omega) _ | refine Ext.trans ?_ (by assumption)))⟩
end Go.Proofs.Ytmgjjgmadiabfaa
