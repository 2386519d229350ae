/- The law SkyBelieves: for every input it returns true. No condition. Tracklets one behind the other. No condition. Lists of lists of numbers, and lists of flags, that the call itself makes. No condition. -/
import Derived.Test.YtmgjjgmadiabfaaRefBelieve
import Derived.Test.YtmgjjgmadiabfaaSameInts
import Derived.Lib.AppendZeros
namespace Go.Proofs.Ytmgjjgmadiabfaa
open Go.RowKit

theorem sight_len (x : Sight) : (sightC x).length = 9 := rfl
theorem sight_news (w : World) (x : Sight) (b o : Nat) (h : sightAt w x b o) : ∀ i u, (sightC x)[i]? = some u → w.cell? ⟨b, o + i, none⟩ = some u := by
  obtain ⟨h0, h1, h2, h3, h4, h5, h6, h7, h8⟩ := h
  intro i u hu
  match i, hu with
  | 0, hu => rw [← hu]; exact h0
  | 1, hu => rw [← hu]; exact h1
  | 2, hu => rw [← hu]; exact h2
  | 3, hu => rw [← hu]; exact h3
  | 4, hu => rw [← hu]; exact h4
  | 5, hu => rw [← hu]; exact h5
  | 6, hu => rw [← hu]; exact h6
  | 7, hu => rw [← hu]; exact h7
  | 8, hu => rw [← hu]; exact h8
theorem sight_read (w : World) (x : Sight) (b o : Nat) (h : ∀ i u, (sightC x)[i]? = some u → w.cell? ⟨b, o + i, none⟩ = some u) : sightAt w x b o := ⟨h 0 _ rfl, h 1 _ rfl, h 2 _ rfl, h 3 _ rfl, h 4 _ rfl, h 5 _ rfl, h 6 _ rfl, h 7 _ rfl, h 8 _ rfl⟩
theorem sight_one : ∀ x : Sight, ∀ u ∈ sightC x, u.oneCell' = true := by intro x u hu; simp [sightC] at hu; rcases hu with rfl | rfl | rfl | rfl | rfl | rfl | rfl | rfl | rfl <;> rfl
theorem info_sight : (Try.prog.info? 32).map (fun i => (i.zero, i.size, i.bytes)) = some (some (.agg #[.int .i64 0, .int .i64 0, .int .i64 0, .int .i64 0, .int .i64 0, .int .i64 0, .int .i64 0, .int .i64 0, .int .i64 0]), 9, 72) := by kernel_rfl

set_option maxRecDepth 4000 in
set_option maxHeartbeats 2000000 in
theorem SkyBelieves_c (A1 : Option Addr) (n1 c1 : Nat) (home : Int) (A2 : Option Addr) (n2 c2 : Nat) (A3 : Option Addr) (n3 c3 : Nat) (s : Sky) (A : Option Addr) (n c : Nat) (l : List Sight) (B : Option Addr) (m d : Nat) (gs : List St) (t0 : Int) (w : World) (hs : IsSky w A1 n1 home A2 n2 A3 n3 s) (hl : Sights w A n l) (hg : Sts w B m gs) :
    Calls Try.prog 10 #[.agg #[.slice A1 n1 c1, .int .i64 home, .slice A2 n2 c2, .slice A3 n3 c3], .slice A n c, .slice B m d, .int .i64 t0] w fun e w' => e = .returned (.bool true) ∧ Ext w w' := by
  have hm := hg.le
  have HB := Lib.hid fun A' c' W (hW : Ext w W) h => big_c A1 n1 c1 home A2 n2 c2 A3 n3 c3 s B m d A' 1 c' [l] W (hs.ext hW) hm h
  have HH := Lib.hid fun W (hW : Ext w W) => Sights.ext hW hl
  have HF := Lib.hid fun W (hW : Ext w W) A' c' (h : Sights W A' l.length l) => Believe_c A1 n1 c1 home A2 n2 c2 A3 n3 c3 s A' l.length c' l B m d gs t0 W (hs.ext hW) h (Sts.ext hW hg)
  have HR := Lib.hid fun W (hW : Ext w W) => refBelieve_c A1 n1 c1 home A2 n2 c2 A3 n3 c3 s A n c l B m d gs t0 W (hs.ext hW) (Sights.ext hW hl) (Sts.ext hW hg)
  have Hln := Lib.hid hl.len
  cases hbig : bigM s m [l]
  · rw [hbig] at HB
    have hn66 : n ≤ 66 := by
      rw [hl.len]
      unfold bigM at hbig
      simp at hbig
      omega
    obtain ⟨is_, his, hs0, hs1, hs2⟩ := info_parts info_sight
    generalize believeN s l gs t0 = M1 at *
    generalize believeL s l gs t0 = M2 at *
    generalize believeE s l gs t0 = M3 at *
    clear hs hg hbig hl
    go_enter Try.func10, Try.ntmps10
    go_wp2_with fail
    refine (HB.out _ _ _ (by (repeat' (first | exact Ext.refl _ | assumption | apply Ext.alloc | apply Ext.drew | refine Ext.set ?_ (by dsimp only; omega) _ | refine Ext.trans ?_ (by assumption)))) ?_).mono ?_
    · refine ⟨rfl, by decide, .inr ⟨_, 0, rfl, one_ (P := fun x k => trkAt _ x _ (0 + k * 1)) ⟨A, n, c, by exact (Blk.newAt (by simp)).cell 0, HH.out _ (by (repeat' (first | exact Ext.refl _ | assumption | apply Ext.alloc | apply Ext.drew | refine Ext.set ?_ (by dsimp only; omega) _ | refine Ext.trans ?_ (by assumption))))⟩⟩⟩
    rintro e w1 ⟨rfl, h1⟩; obtain ⟨hc_w1, hf_w1, hz_w1⟩ := bcell h1; (repeat (first | rw [World.size_alloc] at hz_w1 | rw [World.size_drew] at hz_w1 | rw [World.size_setCell] at hz_w1)); have : w.heap.size < w1.heap.size := (by omega)
    go_wp2_with (at_builtin; go_loud (refine wpList_append_sl rfl (.tmp 23) (.tmp 24) 51 rfl (w.heap.size + 1) 32 is_ _ 9 72 Try.underlying51 his hs0 hs1 hs2 rfl (by decide) _ 0 [] rfl (own_made (by simp) (by omega)) A n c (l.flatMap sightC) rfl (by rw [flat_len sight_len, ← Hln.out]) (sl_news sight_len (sight_news _) (HH.out _ (by (repeat' (first | exact Ext.refl _ | assumption | apply Ext.alloc | apply Ext.drew | refine Ext.set ?_ (by dsimp only; omega) _ | refine Ext.trans ?_ (by assumption)))))) (flat_one sight_one _) (by unfold maxLen; omega) (by omega) (by simp; omega) ?_))
    intro v2 w2 ho2 hg2 hn2
    (try simp only [Nat.zero_add, List.nil_append] at ho2)
    have e2 := grown_ext (w0 := w1) (Ext.alloc0 _ _) hg2 (by intro j hj; simp [Value.ownBlock] at hj; omega)
    rw [Hln.out] at ho2
    obtain ⟨A', c', rfl, hown⟩ := own_sl sight_len (sight_read w2) ho2
    have hz2 := e2.size
    obtain ⟨hc2, hf2, _⟩ := bcell e2
    have hws : w.heap.size < w2.heap.size := by omega
    have HO := Lib.hid hown
    have hll := hown.le
    clear hown ho2 hg2 hn2
    go_wp2_with fail
    refine (HF.out _ (by (repeat' (first | exact Ext.refl _ | assumption | apply Ext.alloc | apply Ext.drew | refine Ext.set ?_ (by dsimp only; omega) _ | refine Ext.trans ?_ (by assumption)))) A' c' HO.out).mono ?_
    rintro e w3 ⟨A3', c3', rfl, hI3, h3⟩
    obtain ⟨hc3, hf3, hz3⟩ := bcell h3
    have hws3 : w.heap.size < w3.heap.size := by omega
    have HI3 := Lib.hid hI3
    clear hI3
    go_wp2_with fail
    refine (HR.out _ (by (repeat' (first | exact Ext.refl _ | assumption | apply Ext.alloc | apply Ext.drew | refine Ext.set ?_ (by dsimp only; omega) _ | refine Ext.trans ?_ (by assumption))))).mono ?_
    rintro e w4 ⟨A4', c4', rfl, hI4, h4⟩
    obtain ⟨hc4, hf4, hz4⟩ := bcell h4
    have e4 : Ext w w4 := by (repeat' (first | exact Ext.refl _ | assumption | apply Ext.alloc | apply Ext.drew | refine Ext.set ?_ (by dsimp only; omega) _ | refine Ext.trans ?_ (by assumption)))
    have HI4 := Lib.hid hI4
    clear hI4
    go_wp2_with fail
    go_loopw [16] (fun i wr => ∃ k : Nat, k ≤ n ∧ i = .int .i64 k ∧ Ext w4 wr) (fun i _ => n - (intOf i).toNat)
    case atStart => exact ⟨0, Nat.zero_le _, rfl, Ext.refl _⟩
    case round =>
      obtain ⟨k, hk, rfl, hb⟩ := hrel
      obtain ⟨hcb, hfb, hzb⟩ := bcell hb
      by_cases hlt : k < n
      · obtain ⟨b, off, x, rfl, HD, hxm, hx⟩ := (HH.out _ (e4.trans hb)).one hlt
        have hlt' : k < l.length := by rw [← Hln.out]; exact hlt
        obtain ⟨b', off', y, rfl, HD', hym, hy⟩ := (Sights.ext (h3.trans (h4.trans hb)) HO.out).one hlt'
        obtain rfl : x = y := by
          have := HD.out.symm.trans HD'.out
          injection this
        obtain ⟨hx0, hx1, hx2, hx3, hx4, hx5, hx6, hx7, hx8⟩ := hx
        obtain ⟨hy0, hy1, hy2, hy3, hy4, hy5, hy6, hy7, hy8⟩ := hy
        have hbl : b < wr.heap.size := World.block_lt_of_cell? wr _ hx0
        have hbl' : b' < wr.heap.size := World.block_lt_of_cell? wr _ hy0
        go_wp2_with fail
        refine wp_region_text (by kernel_rfl) (by kernel_rfl) ?_
        repeat' (first | (refine bl_off (by rfl) ?_; simp only [Act.put, List.setIfInBounds_toArray, List.set_cons_zero, List.set_cons_succ]) | (apply bl_op; rfl; (intro w1 h1; obtain ⟨hc, hf, hz⟩ := bcell h1; go_simp; (try go_bits); (first | exact ⟨rfl, Ext.refl _⟩)); simp only [Act.put, List.setIfInBounds_toArray, List.set_cons_zero, List.set_cons_succ]) | (refine bl_split rfl rfl (fun hx => ?_) (fun hx => ?_) <;> simp only [hx]))
        refine bl_nil ?_
        intro w5 h5
        go_wp2_with fail
        go_roundw
        case rel => exact ⟨k + 1, by omega, by go_num, by (repeat' (first | exact Ext.refl _ | assumption | apply Ext.alloc | apply Ext.drew | refine Ext.set ?_ (by dsimp only; omega) _ | refine Ext.trans ?_ (by assumption)))⟩
        case measure => simp [intOf]; omega
      · have : k = n := by omega
        subst this
        have HS := Lib.hid fun W (hW : Ext wr W) => SameInts_c A3' M2.length c3' A4' M2.length c4' M2 W (Ints.ext (h4.trans (hb.trans hW)) HI3.out) (Ints.ext (hb.trans hW) HI4.out)
        go_wp2_with fail
        refine (HS.out _ (by (repeat' (first | exact Ext.refl _ | assumption | apply Ext.alloc | apply Ext.drew | refine Ext.set ?_ (by dsimp only; omega) _ | refine Ext.trans ?_ (by assumption))))).mono ?_
        rintro e w5 ⟨rfl, h5⟩; obtain ⟨hc_w5, hf_w5, hz_w5⟩ := bcell h5; (repeat (first | rw [World.size_alloc] at hz_w5 | rw [World.size_drew] at hz_w5 | rw [World.size_setCell] at hz_w5))
        go_wp2_with fail
        refine (awake_c _).mono ?_
        rintro e w6 ⟨rfl, h6⟩; obtain ⟨hc_w6, hf_w6, hz_w6⟩ := bcell h6; (repeat (first | rw [World.size_alloc] at hz_w6 | rw [World.size_drew] at hz_w6 | rw [World.size_setCell] at hz_w6))
        go_wp2_with fail
        go_ret
        exact ⟨rfl, by (repeat' (first | exact Ext.refl _ | assumption | apply Ext.alloc | apply Ext.drew | refine Ext.set ?_ (by dsimp only; omega) _ | refine Ext.trans ?_ (by assumption)))⟩
  · rw [hbig] at HB
    clear hs hg hbig hl
    go_enter Try.func10, Try.ntmps10
    go_wp2_with fail
    refine (HB.out _ _ _ (by (repeat' (first | exact Ext.refl _ | assumption | apply Ext.alloc | apply Ext.drew | refine Ext.set ?_ (by dsimp only; omega) _ | refine Ext.trans ?_ (by assumption)))) ?_).mono ?_
    · refine ⟨rfl, by decide, .inr ⟨_, 0, rfl, one_ (P := fun x k => trkAt _ x _ (0 + k * 1)) ⟨A, n, c, by exact (Blk.newAt (by simp)).cell 0, HH.out _ (by (repeat' (first | exact Ext.refl _ | assumption | apply Ext.alloc | apply Ext.drew | refine Ext.set ?_ (by dsimp only; omega) _ | refine Ext.trans ?_ (by assumption))))⟩⟩⟩
    rintro e w1 ⟨rfl, h1⟩; obtain ⟨hc_w1, hf_w1, hz_w1⟩ := bcell h1; (repeat (first | rw [World.size_alloc] at hz_w1 | rw [World.size_drew] at hz_w1 | rw [World.size_setCell] at hz_w1)); have : w.heap.size < w1.heap.size := (by omega)
    go_wp2_with fail
    refine (awake_c _).mono ?_
    rintro e w2 ⟨rfl, h2⟩; obtain ⟨hc_w2, hf_w2, hz_w2⟩ := bcell h2; (repeat (first | rw [World.size_alloc] at hz_w2 | rw [World.size_drew] at hz_w2 | rw [World.size_setCell] at hz_w2))
    go_wp2_with fail
    go_ret
    exact ⟨rfl, by (repeat' (first | exact Ext.refl _ | assumption | apply Ext.alloc | apply Ext.drew | refine Ext.set ?_ (by dsimp only; omega) _ | refine Ext.trans ?_ (by assumption)))⟩
end Go.Proofs.Ytmgjjgmadiabfaa

namespace Go.Proofs.Ytmgjjgmadiabfaa
open Go.RowKit

set_option maxRecDepth 4000 in
set_option maxHeartbeats 1000000 in
theorem Grow_c (k : Nat) (w : World) (h0 : 0 < k) (hk : k ≤ 1000) :
    Calls Try.prog 122 #[.slice none 0 0, .int .i64 k] w fun e w' => ∃ v, e = .returned v ∧ w'.ownsRow w.heap.size 32 9 v 0 [] ∧ Ext w w' := by
  obtain ⟨is_, his, hs0, hs1, hs2⟩ := info_parts info_sight
  have hr := fun W => Lib.run_append_nil_zeros (P := Try.prog) W 51 3 51 32 is_ _ .i64 .i64 Try.underlying51 Try.underlying3 his hs0 k h0 (by omega) (by omega) (by rw [hs2]; omega)
  have HR := Lib.hid hr
  have hge := grownCap_ge w k 0 32
  have hle := grownCap_le_maxLen w k 0 32 (by unfold maxLen; omega)
  have hM : maxLen = 9223372036854775807 := rfl
  rw [hM] at hle
  clear hr hM
  go_enter Try.func122, Try.ntmps122
  go_wp2_with (at_builtin; go_loud (refine Lib.wpList_append_run _ rfl (.tmp 20) (.tmp 21) _ _ rfl _ _ rfl rfl _ _ (HR.out _) ?_))
  go_ret
  refine ⟨_, rfl, own_ext_keep (World.ownsRow_made _ _ _ (Nat.le_refl _) (by unfold maxLen; omega) ?_) (Ext.drew (Ext.refl _)), by (repeat' (first | exact Ext.refl _ | assumption | apply Ext.alloc | apply Ext.drew | refine Ext.set ?_ (by dsimp only; omega) _ | refine Ext.trans ?_ (by assumption)))⟩
  rw [Array.size_append, size_zeroCells, size_zeroCells]
  show k * 9 + (grownCap w k 0 32 - k) * 9 = grownCap w k 0 32 * 9
  omega

def catN (L : List (List Sight)) (k : Nat) : Nat := (L.take k).flatten.length
theorem cat_len2 {L : List (List Sight)} {k : Nat} {x : List Sight} (h : L.drop k = x :: L.drop (k + 1)) : (L.take k).flatten.length + x.length + (L.drop (k + 1)).flatten.length = L.flatten.length := by
  have h1 : L.flatten = (L.take k).flatten ++ (L.drop k).flatten := by rw [← List.flatten_append, List.take_append_drop]
  rw [h1, h, List.length_append, List.flatten_cons, List.length_append]; omega

set_option maxRecDepth 4000 in
set_option maxHeartbeats 1000000 in
theorem Concat_c (A : Option Addr) (n c : Nat) (L : List (List Sight)) (w : World) (hl : Trks w A n L) (h0 : 0 < L.flatten.length) (h1 : L.flatten.length ≤ 1000) :
    Calls Try.prog 105 #[.slice A n c] w fun e w' => ∃ A' c', e = .returned (.slice A' L.flatten.length c') ∧ Sights w' A' L.flatten.length L.flatten ∧ Ext w w' := by
  have hn := hl.le
  have hln := Lib.hid hl.len
  obtain ⟨is_, his, hs0, hs1, hs2⟩ := info_parts info_sight
  obtain ⟨T, hT⟩ : ∃ T, T = L.flatten.length := ⟨_, rfl⟩
  rw [← hT] at h0 h1 ⊢
  have HT := Lib.hid hT
  clear hT
  go_enter Try.func105, Try.ntmps105
  go_wp2_with fail
  go_loopw [3, 11] (fun s i wr => ∃ k : Nat, k ≤ n ∧ i = .int .i64 k ∧ s = .int .i64 (catN L k) ∧ Ext w wr) (fun _ i _ => n - (intOf i).toNat)
  case atStart => exact ⟨0, Nat.zero_le _, rfl, rfl, Ext.refl _⟩
  case round =>
    obtain ⟨k, hk, rfl, rfl, hb⟩ := hrel
    obtain ⟨hcb, hfb, hzb⟩ := bcell hb
    by_cases hlt : k < n
    · obtain ⟨b, off, x, rfl, HD, hxm, A', n', c', hx, hx2⟩ := hl.one hlt
      have hx := hb.cell hx
      simp only [Nat.mul_one] at hx
      have hbl : b < wr.heap.size := World.block_lt_of_cell? wr _ hx
      have hlen := hx2.len
      have hsum := cat_len2 HD.out
      have hts : catN L (k + 1) = catN L k + n' := by rw [catN, catN, take_snoc HD.out, List.flatten_append, List.length_append, hlen]; simp
      rw [← HT.out, ← catN] at hsum
      have Hts := Lib.hid hts
      generalize catN L k = S at *
      have hS : S + n' ≤ 1000 := by omega
      clear hts hsum hx2 hlen
      go_wp2_with fail
      go_roundw
      case rel => exact ⟨k + 1, by omega, by go_num, by rw [Hts.out]; go_num, by (repeat' (first | exact Ext.refl _ | assumption | apply Ext.alloc | apply Ext.drew | refine Ext.set ?_ (by dsimp only; omega) _ | refine Ext.trans ?_ (by assumption)))⟩
      case measure => simp [intOf]; omega
    · have : k = n := by omega
      subst this
      have hall : catN L k = T := by rw [catN, hln.out, List.take_length, HT.out]
      have HG := Lib.hid fun W => Grow_c T W h0 h1
      rw [hall]
      clear hall
      go_wp2_with fail
      refine (HG.out _).mono ?_
      rintro e w1 ⟨v, rfl, hown, h2⟩
      obtain ⟨hc1, hf1, hz1⟩ := bcell h2
      have HO := Lib.hid hown
      have e1 : Ext w w1 := by (repeat' (first | exact Ext.refl _ | assumption | apply Ext.alloc | apply Ext.drew | refine Ext.set ?_ (by dsimp only; omega) _ | refine Ext.trans ?_ (by assumption)))
      clear hown
      obtain ⟨wo, rfl⟩ : ∃ wo : World, wo = wr := ⟨_, rfl⟩
      go_wp2_with fail
      go_loopw [6, 27] (fun v i wr => ∃ j : Nat, j ≤ k ∧ i = .int .i64 j ∧ Hid (wr.ownsRow w.heap.size 32 9 v (catN L j) ((L.take j).flatten.flatMap sightC)) ∧ Ext w wr) (fun _ i _ => k - (intOf i).toNat)
      case atStart => exact ⟨0, Nat.zero_le _, rfl, own_mono HO.out hb.size, e1⟩
      case round =>
        obtain ⟨j, hj, rfl, HR, hb2⟩ := hrel
        obtain ⟨hcb2, hfb2, hzb2⟩ := bcell hb2
        by_cases hlt2 : j < k
        · obtain ⟨b, off, x, rfl, HD, hxm, A', n', c', hx, hx2⟩ := hl.one hlt2
          have hx := hb2.cell hx
          simp only [Nat.mul_one] at hx
          have hbl : b < wr.heap.size := World.block_lt_of_cell? wr _ hx
          have hlen := hx2.len
          have hsum := cat_len2 HD.out
          rw [← HT.out, ← hlen, ← catN] at hsum
          have hbd : catN L j + n' ≤ 1000 := by omega
          have Hx2 := Lib.hid (Sights.ext hb2 hx2)
          have Hlen := Lib.hid hlen
          have hn'9 := hx2.le
          clear hsum hx2 hlen
          go_wp2_with (at_builtin; go_loud (refine wpList_append_sl rfl (.tmp 31) (.tmp 32) 51 rfl w.heap.size 32 is_ _ 9 72 Try.underlying51 his hs0 hs1 hs2 rfl (by decide) _ (catN L j) ((L.take j).flatten.flatMap sightC) rfl HR.out A' n' c' (x.flatMap sightC) rfl (by rw [flat_len sight_len, ← Hlen.out]) (sl_news sight_len (sight_news _) Hx2.out) (flat_one sight_one _) (by unfold maxLen; omega) (by omega) (by omega) ?_))
          intro v5 w5 ho5 hg5 hn5
          have e5 : Ext w w5 := own_ext hb2 HR.out hg5 (Nat.le_refl _)
          have HO5 : Hid (w5.ownsRow w.heap.size 32 9 v5 (catN L (j + 1)) ((L.take (j + 1)).flatten.flatMap sightC)) := by
            rw [catN, take_snoc HD.out, List.flatten_append, List.length_append, List.flatMap_append]
            have : [x].flatten = x := by simp
            rw [this, ← Hlen.out, ← catN]
            exact ho5
          clear ho5 hg5 hn5
          go_wp2_with fail
          go_roundw
          case rel => exact ⟨j + 1, by omega, by go_num, HO5, e5⟩
          case measure => simp [intOf]; omega
        · have : j = k := by omega
          subst this
          have hR := HR.out
          rw [catN, hln.out, List.take_length] at hR
          obtain ⟨A', c', hv, hS⟩ := own_sl sight_len (sight_read wr) hR
          have Hv := Lib.hid hv
          have HS := Lib.hid hS
          clear hR hv hS
          go_wp2_with fail
          go_ret
          refine ⟨A', c', ?_, ?_, by (repeat' (first | exact Ext.refl _ | assumption | apply Ext.alloc | apply Ext.drew | refine Ext.set ?_ (by dsimp only; omega) _ | refine Ext.trans ?_ (by assumption)))⟩
          · rw [HT.out]
            have := Hv.out
            subst this
            rfl
          · rw [HT.out]; exact HS.out
end Go.Proofs.Ytmgjjgmadiabfaa

namespace Go.Proofs.Ytmgjjgmadiabfaa
open Go.RowKit

def rowAt (w : World) (p : List Int) (b o : Nat) : Prop := ∃ A n c, w.cell? ⟨b, o, none⟩ = some (.slice A n c) ∧ Ints w A n p
abbrev IRows (w : World) (A : Option Addr) (n : Nat) (l : List (List Int)) : Prop := SlR 1 (rowAt w) A n l
theorem rowAt.ext {w w' : World} (e : Ext w w') {p : List Int} {b o : Nat} (h : rowAt w p b o) : rowAt w' p b o := by
  obtain ⟨A, n, c, h1, h2⟩ := h
  exact ⟨A, n, c, e.cell h1, Ints.ext e h2⟩
theorem IRows.ext {w w' : World} (e : Ext w w') {A n l} (h : IRows w A n l) : IRows w' A n l := SlR.mono h fun _ _ _ _ => rowAt.ext e

def OwnRows (base : Nat) (w : World) (v : Value) (rows : List (List Int)) : Prop :=
  ∃ raw : List Value, raw.length = rows.length ∧ w.ownsRow base 38 1 v rows.length raw ∧ ∀ k (h : k < rows.length), ∃ u, raw[k]? = some u ∧ OwnInts base w u rows[k]
theorem OwnRows.nil (base : Nat) (w : World) : OwnRows base w (.slice none 0 0) [] := ⟨[], rfl, World.ownsRow_nil _ _ _ _, fun k h => by cases h⟩
theorem OwnRows.ext {base : Nat} {w w' : World} {v : Value} {rows : List (List Int)} (h : OwnRows base w v rows) (e : Ext w w') : OwnRows base w' v rows := by
  obtain ⟨raw, h1, h2, h3⟩ := h
  refine ⟨raw, h1, own_ext_keep h2 e, fun k hk => ?_⟩
  obtain ⟨u, g1, g2⟩ := h3 k hk
  exact ⟨u, g1, g2.ext e⟩
theorem OwnInts.grow {base : Nat} {w w' : World} {v : Value} {l : List Int} (h : OwnInts base w v l) {T : Nat} {t : TypeId} {cs : Array Value} (hB : Blk w T t cs) (hne : 3 ≠ t) (hg : w.grownBy w' (some T)) : OwnInts base w' v l :=
  World.ownsRow.kept h hg (.inr (own_blk h hB hne))
theorem OwnRows.grow {base : Nat} {w w' : World} {v : Value} {rows : List (List Int)} (h : OwnRows base w v rows) {T : Nat} {t : TypeId} {cs : Array Value} (hB : Blk w T t cs) (hne : 3 ≠ t) (hne' : 38 ≠ t) (hg : w.grownBy w' (some T)) : OwnRows base w' v rows := by
  obtain ⟨raw, h1, h2, h3⟩ := h
  refine ⟨raw, h1, World.ownsRow.kept h2 hg (.inr (own_blk h2 hB hne')), fun k hk => ?_⟩
  obtain ⟨u, g1, g2⟩ := h3 k hk
  exact ⟨u, g1, g2.grow hB hne hg⟩
theorem OwnRows.snoc {base : Nat} {w w' : World} {v v' u : Value} {rows : List (List Int)} {raw : List Value} {x : List Int} {n : Nat} (hn : n = 1) (h1 : raw.length = rows.length) (h2 : w.ownsRow base 38 1 v rows.length raw) (h3 : ∀ k (h : k < rows.length), ∃ u, raw[k]? = some u ∧ OwnInts base w u rows[k])
    (hu : OwnInts base w u x) (hg : w.grownBy w' v.ownBlock) (hv : w'.ownsRow base 38 1 v' (rows.length + n) (raw ++ [u])) : OwnRows base w' v' (rows ++ [x]) := by
  subst hn
  have keep : ∀ {q : Value} {l : List Int}, OwnInts base w q l → OwnInts base w' q l := fun h => World.ownsRow.kept h hg (own_ne h h2 (by decide))
  refine ⟨raw ++ [u], by simp [h1], by rw [List.length_append]; exact hv, fun k hk => ?_⟩
  by_cases hk' : k < rows.length
  · obtain ⟨q, g1, g2⟩ := h3 k hk'
    refine ⟨q, by rw [List.getElem?_append_left (by omega)]; exact g1, ?_⟩
    rw [List.getElem_append_left hk']
    exact keep g2
  · have hk2 : k = rows.length := by rw [List.length_append] at hk; simp at hk; omega
    subst hk2
    refine ⟨u, by rw [List.getElem?_append_right (by omega), h1]; simp, ?_⟩
    have e1 : (rows ++ [x])[rows.length] = x := by simp
    rw [e1]
    exact keep hu
theorem OwnRows.sl {base : Nat} {w : World} {v : Value} {rows : List (List Int)} (h : OwnRows base w v rows) : ∃ A c, v = .slice A rows.length c ∧ IRows w A rows.length rows := by
  obtain ⟨raw, h1, h3, h5⟩ := h
  rcases h3.2 with ⟨rfl, h0⟩ | ⟨g, cap, cur, rfl, hbg, hg, hnc, hcm, hcs, htk⟩
  · rw [h0]
    have : rows = [] := List.eq_nil_of_length_eq_zero h0
    subst this
    exact ⟨none, 0, rfl, SlR.nil _ _ _⟩
  · refine ⟨_, cap, rfl, rfl, by unfold maxLen at hcm; omega, .inr ⟨g, 0, rfl, fun k hk => ?_⟩⟩
    obtain ⟨u, q1, q2⟩ := h5 k hk
    obtain ⟨A, c, rfl, q3⟩ := q2.sl
    have h8 := h3.cells (g := g) rfl _ _ q1
    rw [add_none] at h8
    exact ⟨A, _, c, by rw [Nat.mul_one]; exact h8, q3⟩
theorem own_one {w : World} {base : Nat} {e : TypeId} {g : Nat} {v : Value} (hg : g = w.heap.size) (hb : base ≤ g) : (w.alloc (.cells #[v] e)).ownsRow base e 1 (.slice (some ⟨g, 0, none⟩) 1 1) 1 [v] := by
  subst hg
  exact ⟨rfl, .inr ⟨w.heap.size, 1, #[v], rfl, hb, heap_alloc_new w _, Nat.le_refl _, by decide, rfl, rfl⟩⟩
theorem info_bool : (Try.prog.info? 4).map (fun i => (i.zero, i.size, i.bytes)) = some (some (.bool false), 1, 1) := by kernel_rfl
theorem info_ints : (Try.prog.info? 38).map (fun i => (i.zero, i.size, i.bytes)) = some (some (.slice none 0 0), 1, 24) := by kernel_rfl

/-- The cells of flags. -/
def boolC (l : List Bool) : Array Value := (l.map Value.bool).toArray
theorem boolC_get (l : List Bool) (k : Nat) (h : k < l.length) : (boolC l)[k]? = some (.bool (l.getD k false)) := by
  unfold boolC
  simp [List.getD_eq_getElem?_getD, h]
theorem boolC_set (l : List Bool) (k : Nat) : (boolC l).setIfInBounds k (.bool true) = boolC (l.set k true) := by
  unfold boolC
  simp [List.map_set]
/-- A row whose cells are all there is of its block. -/
theorem own_full {w : World} {base : Nat} {e : TypeId} {g n : Nat} {l : List Bool} (hl : l.length = n) (h : w.ownsRow base e 1 (.slice (some ⟨g, 0, none⟩) n n) n (l.map Value.bool)) : Blk w g e (boolC l) := by
  rcases h.2 with ⟨hx, _⟩ | ⟨g', cap, cur, hx, _, hg, _, _, hcs, htk⟩
  · cases hx
  · injection hx with h1 h2 h3
    injection h1 with h1; injection h1 with h1
    subst h1
    subst h3
    have : cur = boolC l := by
      unfold boolC
      apply Array.ext'
      rw [← htk, List.take_of_length_le (by simp; omega)]
    rw [← this]
    exact hg
theorem made_bools (n : Nat) : (madeCells (Value.bool false).cells (n * 1)).toList = (List.replicate n false).map Value.bool := by
  unfold madeCells
  apply List.ext_getElem
  · simp
  · intro i h1 h2
    simp [Value.cells]
    have : i % 1 = 0 := Nat.mod_one i
    simp [Nat.mod_one]
theorem made_bools2 (n : Nat) : (madeCells #[Value.bool false] n).toList = (List.replicate n false).map Value.bool := by
  have h := made_bools n
  rw [Nat.mul_one] at h
  exact h
end Go.Proofs.Ytmgjjgmadiabfaa
