/- Groups of tracklets: the program. No condition. -/
import Derived.Test.YtmgjjgmadiabfaaOwnRows
import Derived.Test.YtmgjjgmadiabfaaLink
namespace Go.Proofs.Ytmgjjgmadiabfaa
open Go.RowKit

def trksErr (s : Sky) : List (List Sight) → Int
  | [] => 0
  | x :: r => if trkErr s x ≠ 0 then trkErr s x else trksErr s r
def grpErr (s : Sky) (L : List (List Sight)) (gs : List St) (t0 : Int) : Int := if skyErr s ≠ 0 then skyErr s else if 16 < L.length then 8 else if trksErr s L ≠ 0 then trksErr s L else askErr gs t0
/-- The numbers, from k on, of the tracklets that are free and that F takes. -/
def groupFrom (F : List Sight → Bool) (tk : List Bool) : List (List Sight) → Nat → List Int
  | [], _ => []
  | x :: r, k => if tk.getD k false = false ∧ F x = true then (k : Int) :: groupFrom F tk r (k + 1) else groupFrom F tk r (k + 1)
def marks (tk : List Bool) (l : List Int) : List Bool := l.foldl (fun t i => t.set i.toNat true) tk
def groupsFrom (F : St → List Sight → Bool) (L : List (List Sight)) : List St → List Bool → List (List Int) → List Bool × List (List Int)
  | [], tk, rows => (tk, rows)
  | g :: r, tk, rows => if (groupFrom (F g) tk L 0).length < 2 then groupsFrom F L r tk rows else groupsFrom F L r (marks tk (groupFrom (F g) tk L 0)) (rows ++ [groupFrom (F g) tk L 0])
def singlesFrom : List Bool → Nat → List (List Int)
  | [], _ => []
  | b :: r, k => if b then singlesFrom r (k + 1) else [(k : Int)] :: singlesFrom r (k + 1)
def takes (s : Sky) (t0 : Int) (g : St) (x : List Sight) : Bool := decide (missFrom s g t0 x 0 < 0)
def grpOf (s : Sky) (L : List (List Sight)) (gs : List St) (t0 : Int) : List Bool × List (List Int) := groupsFrom (takes s t0) L gs (List.replicate L.length false) []
def grpR (s : Sky) (L : List (List Sight)) (gs : List St) (t0 : Int) : List (List Int) := if grpErr s L gs t0 ≠ 0 then [] else (grpOf s L gs t0).2 ++ singlesFrom (grpOf s L gs t0).1 0

theorem marks_len (l : List Int) : ∀ tk : List Bool, (marks tk l).length = tk.length := by
  induction l with
  | nil => intro tk; rfl
  | cons i r ih => intro tk; simp only [marks, List.foldl_cons]; exact (ih _).trans (List.length_set ..)
theorem marks_snoc (tk : List Bool) (l : List Int) (i : Int) : marks tk (l ++ [i]) = (marks tk l).set i.toNat true := by simp [marks, List.foldl_append]
theorem group_lt (F : List Sight → Bool) (tk : List Bool) : ∀ (L : List (List Sight)) (k : Nat), ∀ i ∈ groupFrom F tk L k, ∃ q : Nat, i = q ∧ k ≤ q ∧ q < k + L.length
  | [], _, i, h => by cases h
  | x :: r, k, i, h => by
    rw [groupFrom] at h
    have tail : i ∈ groupFrom F tk r (k + 1) → ∃ q : Nat, i = q ∧ k ≤ q ∧ q < k + (x :: r).length := fun h => by
      obtain ⟨q, h1, h2, h3⟩ := group_lt F tk r (k + 1) i h
      exact ⟨q, h1, by omega, by simp only [List.length_cons]; omega⟩
    by_cases hc : tk.getD k false = false ∧ F x = true
    · rw [if_pos hc] at h
      rcases List.mem_cons.1 h with h | h
      · exact ⟨k, h, by omega, by simp only [List.length_cons]; omega⟩
      · exact tail h
    · rw [if_neg hc] at h; exact tail h
theorem group_len (F : List Sight → Bool) (tk : List Bool) : ∀ (L : List (List Sight)) (k : Nat), (groupFrom F tk L k).length ≤ L.length
  | [], _ => Nat.le_refl _
  | x :: r, k => by
    have := group_len F tk r (k + 1)
    rw [groupFrom]
    by_cases hc : tk.getD k false = false ∧ F x = true
    · rw [if_pos hc]; simp only [List.length_cons]; omega
    · rw [if_neg hc]; simp only [List.length_cons]; omega
theorem trks_ok {s : Sky} : ∀ {L : List (List Sight)}, trksErr s L = 0 → ∀ x ∈ L, trkErr s x = 0
  | [], _, x, hx => by cases hx
  | y :: r, h, x, hx => by
    rw [trksErr] at h
    by_cases h0 : trkErr s y = 0
    · rw [if_neg (by simp [h0])] at h
      rcases List.mem_cons.1 hx with rfl | hx
      · exact h0
      · exact trks_ok h x hx
    · rw [if_pos h0] at h; exact absurd h h0

/-- Two results: a list of lists of numbers, an error. -/
def RetR (w : World) (rows : List (List Int)) (er : Int) (e : Ending) (w' : World) : Prop :=
  ∃ A c, e = .returned (.tuple #[.slice A rows.length c, .int .i64 er]) ∧ IRows w' A rows.length rows ∧ Ext w w'
theorem RetR.mk {w w' : World} {er : Int} {e : Ending} (he : e = .returned (.tuple #[.slice none 0 0, .int .i64 er])) (hw : Ext w w') : RetR w [] er e w' := ⟨none, 0, he, SlR.nil _ _ _, hw⟩

set_option maxRecDepth 8000 in
set_option maxHeartbeats 4000000 in
theorem Groups_yes (A1 : Option Addr) (n1 c1 : Nat) (home : Int) (A2 : Option Addr) (n2 c2 : Nat) (A3 : Option Addr) (n3 c3 : Nat) (s : Sky) (A : Option Addr) (n c : Nat) (L : List (List Sight)) (B : Option Addr) (m d : Nat) (gs : List St) (t0 : Int) (w : World) (hs : IsSky w A1 n1 home A2 n2 A3 n3 s) (hl : Trks w A n L) (hg : Sts w B m gs)
    (h0 : skyErr s = 0) (h1 : L.length ≤ 16) (h2 : trksErr s L = 0) (h3 : askErr gs t0 = 0) :
    Calls Try.prog 49 #[.agg #[.slice A1 n1 c1, .int .i64 home, .slice A2 n2 c2, .slice A3 n3 c3], .slice A n c, .slice B m d, .int .i64 t0] w (RetR w ((grpOf s L gs t0).2 ++ singlesFrom (grpOf s L gs t0).1 0) 0) := by
  have HC := Lib.hid fun W (hW : Ext w W) => Check_c A1 n1 c1 home A2 n2 c2 A3 n3 c3 s W (hs.ext hW)
  have HT := Lib.hid fun (x : List Sight) (hx : x ∈ L) A' n' c' W (hW : Ext w W) h => CheckTracklet_c A1 n1 c1 home A2 n2 c2 A3 n3 c3 s A' n' c' x W (hs.ext hW) h
  have HA := Lib.hid fun W (hW : Ext w W) => checkGuesses_c B m d gs t0 W (Sts.ext hW hg)
  rw [h0] at HC
  rw [h3] at HA
  have hm := hg.le
  have hok := trks_ok h2
  obtain ⟨hm64, ht, hgo⟩ := ask_ok h3
  have HF := Lib.hid fun (g : St) (hgm : g ∈ gs) (x : List Sight) (hx : x ∈ L) A' n' c' W (hW : Ext w W) h => misses_c A1 n1 c1 home A2 n2 c2 A3 n3 c3 s g.x g.y g.u g.v t0 A' n' c' x W (hs.ext hW) h (trk_ok (hok x hx)) (hgo g hgm) ht
  have HT0 := Lib.hid fun (x : List Sight) (hx : x ∈ L) => hok x hx
  have Hml := Lib.hid hg.len
  have Hln := Lib.hid hl.len
  have HGS := Lib.hid fun W (hW : Ext w W) => Sts.ext hW hg
  have HLS := Lib.hid fun W (hW : Ext w W) => Trks.ext hW hl
  have hm64' : m ≤ 64 := by have := hg.len; omega
  have hn16 : n ≤ 16 := by have := hl.len; omega
  obtain ⟨ii, hii, hi0, hi1, hi2⟩ := info_parts info_int
  obtain ⟨ib, hib, hb0, hb1, hb2⟩ := info_parts info_bool
  obtain ⟨ir, hir, hr0, hr1, hr2⟩ := info_parts info_ints
  generalize hRR : grpOf s L gs t0 = RR
  have HRR := Lib.hid (show groupsFrom (takes s t0) L gs (List.replicate n false) [] = RR by rw [hl.len]; exact hRR)
  obtain ⟨R1, R2⟩ := RR
  dsimp only
  clear h0 h1 h2 h3 hok hgo ht hs hg hl hm64 hRR
  go_enter Try.func49, Try.ntmps49
  go_wp2_with fail
  refine (HC.out _ (by (repeat' (first | exact Ext.refl _ | assumption | apply Ext.alloc | apply Ext.drew | refine Ext.set ?_ (by dsimp only; omega) _ | refine Ext.trans ?_ (by assumption))))).mono ?_
  rintro e w1 ⟨rfl, h1⟩; obtain ⟨hc_w1, hf_w1, hz_w1⟩ := bcell h1; (repeat (first | rw [World.size_alloc] at hz_w1 | rw [World.size_drew] at hz_w1 | rw [World.size_setCell] at hz_w1)); have : w.heap.size < w1.heap.size := (by omega)
  go_wp2_with fail
  go_loopw [35] (fun i wr => ∃ k : Nat, k ≤ n ∧ i = .int .i64 k ∧ Ext w1 wr) (fun i _ => n - (intOf i).toNat)
  case atStart => exact ⟨0, Nat.zero_le _, rfl, Ext.refl _⟩
  case round =>
    obtain ⟨k, hk, rfl, hb⟩ := hrel
    obtain ⟨hcb, hfb, hzb⟩ := bcell hb
    have hwr0 : w.heap.size < wr.heap.size := by omega
    have eW : Ext w wr := by (repeat' (first | exact Ext.refl _ | assumption | apply Ext.alloc | apply Ext.drew | refine Ext.set ?_ (by dsimp only; omega) _ | refine Ext.trans ?_ (by assumption)))
    by_cases hlt : k < n
    · obtain ⟨q, off, x, rfl, HD, hxm, A', n', c', hx, hx2⟩ := (HLS.out _ eW).one hlt
      simp only [Nat.mul_one] at hx
      have hbl : q < wr.heap.size := World.block_lt_of_cell? wr _ hx
      have Hx2 := Lib.hid hx2
      have hn' := hx2.le
      clear hx2
      go_wp2_with fail
      refine (HT.out x hxm _ _ _ _ (by (repeat' (first | exact Ext.refl _ | assumption | apply Ext.alloc | apply Ext.drew | refine Ext.set ?_ (by dsimp only; omega) _ | refine Ext.trans ?_ (by assumption)))) Hx2.out).mono ?_
      rw [HT0.out x hxm]
      rintro e w2 ⟨rfl, h2⟩; obtain ⟨hc_w2, hf_w2, hz_w2⟩ := bcell h2; (repeat (first | rw [World.size_alloc] at hz_w2 | rw [World.size_drew] at hz_w2 | rw [World.size_setCell] at hz_w2))
      go_wp2_with fail
      go_roundw
      case rel => exact ⟨k + 1, by omega, by go_num, by (repeat' (first | exact Ext.refl _ | assumption | apply Ext.alloc | apply Ext.drew | refine Ext.set ?_ (by dsimp only; omega) _ | refine Ext.trans ?_ (by assumption)))⟩
      case measure => simp [intOf]; omega
    · have : k = n := by omega
      subst this
      go_wp2_with fail
      refine (HA.out _ (by (repeat' (first | exact Ext.refl _ | assumption | apply Ext.alloc | apply Ext.drew | refine Ext.set ?_ (by dsimp only; omega) _ | refine Ext.trans ?_ (by assumption))))).mono ?_
      rintro e w2 ⟨rfl, h2⟩; obtain ⟨hc_w2, hf_w2, hz_w2⟩ := bcell h2; (repeat (first | rw [World.size_alloc] at hz_w2 | rw [World.size_drew] at hz_w2 | rw [World.size_setCell] at hz_w2)); have : w.heap.size < w2.heap.size := (by omega)
      have e2 : Ext w w2 := by (repeat' (first | exact Ext.refl _ | assumption | apply Ext.alloc | apply Ext.drew | refine Ext.set ?_ (by dsimp only; omega) _ | refine Ext.trans ?_ (by assumption)))
      obtain ⟨wo, rfl⟩ : ∃ wo : World, wo = wr := ⟨_, rfl⟩
      go_wp2_with (go_loud (refine wpList_make_full _ rfl (.tmp 53) (.tmp 53) 89 rfl w2.heap.size 4 ib _ 1 Try.underlying89 hib hb0 hb1 .i64 .i64 _ _ k rfl rfl rfl rfl (by rw [hb2]; omega) (by unfold maxLen; omega) (Nat.le_refl _) ?_))
      intro w3 ho3 hg3
      rw [made_bools2] at ho3
      have hB3 := own_full (by simp) ho3
      have e3 : Ext w2 w3 := grown_ext (Ext.refl _) hg3 (by intro j hj; cases hj)
      have HB3 := Lib.hid hB3
      obtain ⟨hc3, hf3, hz3⟩ := bcell e3
      clear ho3 hg3 hB3
      go_wp2_with fail
      go_loopw [16, 57] (fun v i wr => ∃ (k' : Nat) (tk : List Bool) (rows : List (List Int)), k' ≤ m ∧ i = .int .i64 k' ∧ Hid (tk.length = k) ∧ Hid (rows.length ≤ k') ∧ Hid (groupsFrom (takes s t0) L (gs.drop k') tk rows = (R1, R2)) ∧ Hid (OwnRows w2.heap.size wr v rows) ∧ Hid (Blk wr w2.heap.size 4 (boolC tk)) ∧ Ext w2 wr) (fun _ i _ => m - (intOf i).toNat)
      case atStart => exact ⟨0, _, [], Nat.zero_le _, rfl, List.length_replicate, Nat.le_refl _, HRR.out, OwnRows.nil _ _, HB3.out, e3⟩
      case round =>
        obtain ⟨k', tk, rows, hk', rfl, Htk, Hrk, HI, HO, HB, hb3⟩ := hrel
        obtain ⟨hcb3, hfb3, hzb3⟩ := bcell hb3
        have hwr3 : w.heap.size < wr.heap.size := by omega
        have hT3 : w2.heap.size < wr.heap.size := HB.out.lt
        by_cases hlt : k' < m
        · obtain ⟨q, off, g, rfl, HD, hgm, hgc⟩ := (HGS.out _ (e2.trans hb3)).one hlt
          obtain ⟨hg0, hg1, hg2, hg3⟩ := hgc
          have hq := World.block_lt_of_cell? wr _ hg0
          dsimp only at hq
          have hi := HI.out; rw [HD.out, groupsFrom] at hi
          have Hi := Lib.hid hi; clear hi
          obtain ⟨wo, rfl⟩ : ∃ wo : World, wo = wr := ⟨_, rfl⟩
          go_wp2_with fail
          go_loopw [19, 63] (fun v i wr => ∃ (j : Nat) (acc : List Int), j ≤ k ∧ i = .int .i64 j ∧ Hid (acc.length ≤ j) ∧ Hid (acc ++ groupFrom (takes s t0 g) tk (L.drop j) j = groupFrom (takes s t0 g) tk L 0) ∧ Hid (OwnInts (wo.heap.size + 1) wr v acc) ∧ Ext (wo.alloc (.cells #[.int .i64 g.x, .int .i64 g.y, .int .i64 g.u, .int .i64 g.v] 53)) wr) (fun _ i _ => k - (intOf i).toNat)
          case atStart => exact ⟨0, [], Nat.zero_le _, rfl, Nat.le_refl _, rfl, OwnInts.nil _ _, Ext.refl _⟩
          case round =>
            obtain ⟨j, acc, hj, rfl, Hak, HJ, HG, hb4⟩ := hrel
            obtain ⟨hcb4, hfb4, hzb4⟩ := bcell hb4
            rw [World.size_alloc] at hzb4
            have hwr4 : w.heap.size < wr.heap.size := by omega
            have hT4 : w2.heap.size < wr.heap.size := by omega
            have hwo4 : wo.heap.size < wr.heap.size := by omega
            have EWr := Lib.hid (show Ext w wr from e2.trans (hb3.trans (Ext.trans (Ext.alloc0 _ _) hb4)))
            by_cases hlt2 : j < k
            · obtain ⟨qq, off2, x, rfl, HE, hxm, A', n', c', hx, hx2⟩ := (HLS.out _ EWr.out).one hlt2
              simp only [Nat.mul_one] at hx
              have hbl : qq < wr.heap.size := World.block_lt_of_cell? wr _ hx
              have Hx2 := Lib.hid hx2
              have hn' := hx2.le
              have hTc : wo.cell? ⟨w2.heap.size, j, none⟩ = some (.bool (tk.getD j false)) := by
                rw [HB.out.cell j, boolC_get _ _ (by rw [Htk.out]; exact hlt2)]
              have hjj := HJ.out; rw [HE.out, groupFrom] at hjj
              have hcx := HF.out g hgm x hxm
              have hee : missFrom s ⟨g.x, g.y, g.u, g.v⟩ t0 x 0 = missFrom s g t0 x 0 := rfl
              rw [hee] at hcx
              have htk : takes s t0 g x = decide (missFrom s g t0 x 0 < 0) := rfl
              rw [htk] at hjj
              generalize missFrom s g t0 x 0 = M at hjj hcx
              have HFx := Lib.hid hcx
              have Hj := Lib.hid hjj
              clear hcx hee htk hjj hx2
              cases hb5 : tk.getD j false
              · rw [hb5] at hTc
                have hj2 := Hj.out
                rw [hb5] at hj2
                have Hj2 := Lib.hid hj2
                clear hj2 hb5
                go_wp2_with fail
                refine (HFx.out _ _ _ _ EWr.out Hx2.out).mono ?_
                rintro e w5 ⟨rfl, h5⟩; obtain ⟨hc_w5, hf_w5, hz_w5⟩ := bcell h5; (repeat (first | rw [World.size_alloc] at hz_w5 | rw [World.size_drew] at hz_w5 | rw [World.size_setCell] at hz_w5))
                have hw5 : w.heap.size < w5.heap.size := by omega
                by_cases hM : M < 0
                · have HG5 := Lib.hid (HG.out.ext h5)
                  have hak : acc.length ≤ 16 := by have := Hak.out; omega
                  go_wp2_with (at_builtin; go_loud (refine wpList_append_sl rfl (.tmp 82) (.tmp 84) 38 rfl (wo.heap.size + 1) 3 ii _ 1 8 Try.underlying38 hii hi0 hi1 hi2 rfl (by decide) _ acc.length (acc.flatMap intC) rfl (own_ext_keep HG5.out (by (repeat' (first | exact Ext.refl _ | assumption | apply Ext.alloc | apply Ext.drew | refine Ext.set ?_ (by dsimp only; omega) _ | refine Ext.trans ?_ (by assumption))))) (some ⟨w5.heap.size, 0, none⟩) 1 1 [.int .i64 j] rfl rfl (.inr ⟨_, rfl, new_cells (by simp)⟩) (by intro u hu; simp at hu; rcases hu with rfl; rfl) (by unfold maxLen; omega) (by omega) (by simp; omega) ?_))
                  intro v6 w6 ho6 hg6 hn6
                  have e6 := own_ext (w0 := wo.alloc (.cells #[.int .i64 g.x, .int .i64 g.y, .int .i64 g.u, .int .i64 g.v] 53)) (by (repeat' (first | exact Ext.refl _ | assumption | apply Ext.alloc | apply Ext.drew | refine Ext.set ?_ (by dsimp only; omega) _ | refine Ext.trans ?_ (by assumption)))) (own_ext_keep HG5.out (by (repeat' (first | exact Ext.refl _ | assumption | apply Ext.alloc | apply Ext.drew | refine Ext.set ?_ (by dsimp only; omega) _ | refine Ext.trans ?_ (by assumption))))) hg6 (by rw [World.size_alloc]; omega)
                  have HG6 := Lib.hid (OwnInts.ofSnoc rfl ho6)
                  clear ho6 hg6 hn6
                  go_wp2_with fail
                  go_roundw
                  case rel => exact ⟨j + 1, acc ++ [(j : Int)], by omega, by go_num, by (show (acc ++ [(j : Int)]).length ≤ j + 1); have := Hak.out; simp; omega, by have hi := Hj2.out; rw [if_pos (by simp [hM])] at hi; simpa [Hid] using hi, HG6, e6⟩
                  case measure => simp [intOf]; omega
                · have hM' : 0 ≤ M := by omega
                  go_wp2_with fail
                  go_roundw
                  case rel => exact ⟨j + 1, acc, by omega, by go_num, Nat.le_succ_of_le Hak.out, by have hi := Hj2.out; rw [if_neg (by simp; omega)] at hi; exact hi, HG.out.ext (by (repeat' (first | exact Ext.refl _ | assumption | apply Ext.alloc | apply Ext.drew | refine Ext.set ?_ (by dsimp only; omega) _ | refine Ext.trans ?_ (by assumption)))), by (repeat' (first | exact Ext.refl _ | assumption | apply Ext.alloc | apply Ext.drew | refine Ext.set ?_ (by dsimp only; omega) _ | refine Ext.trans ?_ (by assumption)))⟩
                  case measure => simp [intOf]; omega
              · rw [hb5] at hTc
                have hj2 := Hj.out
                rw [hb5, if_neg (by simp)] at hj2
                have Hj2 := Lib.hid hj2
                clear hj2 hb5
                go_wp2_with fail
                go_roundw
                case rel => exact ⟨j + 1, acc, by omega, by go_num, Nat.le_succ_of_le Hak.out, Hj2.out, HG.out.ext (by (repeat' (first | exact Ext.refl _ | assumption | apply Ext.alloc | apply Ext.drew | refine Ext.set ?_ (by dsimp only; omega) _ | refine Ext.trans ?_ (by assumption)))), by (repeat' (first | exact Ext.refl _ | assumption | apply Ext.alloc | apply Ext.drew | refine Ext.set ?_ (by dsimp only; omega) _ | refine Ext.trans ?_ (by assumption)))⟩
                case measure => simp [intOf]; omega
            · have : j = k := by omega
              subst this
              have hjj := HJ.out
              rw [Hln.out, List.drop_length, groupFrom, List.append_nil] at hjj
              have hi := Hi.out
              rw [← hjj] at hi
              have Hi2 := Lib.hid hi
              have Hmem := Lib.hid (show ∀ i ∈ acc, ∃ q : Nat, i = q ∧ 0 ≤ q ∧ q < 0 + L.length by rw [hjj]; exact group_lt _ _ _ _)
              obtain ⟨A5, c5, hv, hL5⟩ := HG.out.sl
              have HL5 := Lib.hid hL5
              have hak : acc.length ≤ 16 := by have := Hak.out; omega
              have hB4 := HB.out.ext (Ext.trans (Ext.alloc0 _ _) hb4)
              have HB4 := Lib.hid hB4
              have HO4 := Lib.hid (HO.out.ext (Ext.trans (Ext.alloc0 _ _) hb4))
              clear hi hjj Hi HJ HI hL5 HB HO hB4
              by_cases h2l : acc.length < 2
              · have hi := Hi2.out
                rw [if_pos h2l] at hi
                have Hi3 := Lib.hid hi
                subst hv
                clear hi Hi2
                go_wp2_with fail
                go_roundw
                case rel => exact ⟨k' + 1, tk, rows, by omega, by go_num, Htk.out, Nat.le_succ_of_le Hrk.out, Hi3.out, HO4.out, HB4.out, hb3.trans (Ext.trans (Ext.alloc0 _ _) hb4)⟩
                case measure => simp [intOf]; omega
              · have hi := Hi2.out
                rw [if_neg h2l] at hi
                have Hi3 := Lib.hid hi
                have h2l' : 2 ≤ acc.length := by omega
                have HGv := Lib.hid (show OwnInts (wo.heap.size + 1) wr (.slice A5 acc.length c5) acc from hv ▸ HG.out)
                subst hv
                clear hi Hi2 HG h2l
                obtain ⟨wi, rfl⟩ : ∃ wi : World, wi = wr := ⟨_, rfl⟩
                go_wp2_with fail
                go_loopw [92] (fun i wr => ∃ j : Nat, j ≤ acc.length ∧ i = .int .i64 j ∧ Hid (Blk wr w2.heap.size 4 (boolC (marks tk (acc.take j)))) ∧ Hid (Wr wi w2.heap.size wr)) (fun i _ => acc.length - (intOf i).toNat)
                case atStart => exact ⟨0, Nat.zero_le _, rfl, HB4.out, Wr.refl _ _⟩
                case round =>
                  obtain ⟨i, hi, rfl, HM, HW⟩ := hrel
                  have hWc := HW.out.cells
                  obtain ⟨hcW, hfW, hzW⟩ := hWc
                  have hTW : w2.heap.size < wr.heap.size := by omega
                  have HGW := Lib.hid (HGv.out.grow HB4.out (by decide) HW.out)
                  by_cases hlt3 : i < acc.length
                  · obtain ⟨bb, oo, y, rfl, HY, hym, hy⟩ := (show Ints wr A5 acc.length acc from by
                      obtain ⟨A6, c6, e6, h6⟩ := HGW.out.sl
                      injection e6 with e6a e6b e6c
                      rw [e6a]; exact h6).one hlt3
                    simp only [Nat.mul_one] at hy
                    have hy : wr.cell? ⟨bb, oo + i, none⟩ = some (.int .i64 y) := hy
                    obtain ⟨z, rfl, _, hz⟩ := Hmem.out y hym
                    have hz' : z < j := by have := Hln.out; omega
                    have hbb : bb < wr.heap.size := World.block_lt_of_cell? wr _ hy
                    have hTc := HM.out.cell
                    have hTf := HM.out.frozen
                    have hts := HM.out.cell z
                    have hzl : z < (marks tk (acc.take i)).length := by rw [marks_len, Htk.out]; exact hz'
                    rw [boolC_get _ _ hzl] at hts
                    have Hset := Lib.hid (show Blk (wr.setCell ⟨w2.heap.size, z, none⟩ (.bool true)) w2.heap.size 4 (boolC (marks tk (acc.take (i + 1)))) by
                      have := HM.out.set_ z (.bool true)
                      rw [boolC_set] at this
                      rw [take_snoc HY.out, marks_snoc]
                      exact this)
                    clear hTc hcW hfW
                    go_wp2_with fail
                    go_roundw
                    case rel => exact ⟨i + 1, by omega, by go_num, Hset.out, HW.out.set rfl _⟩
                    case measure => simp [intOf]; omega
                  · have : i = acc.length := by omega
                    subst this
                    have hM := HM.out
                    rw [List.take_length] at hM
                    have HM2 := Lib.hid hM
                    have hO := HO4.out.grow HB4.out (by decide) (by decide) HW.out
                    obtain ⟨raw, r1, r2, r3⟩ := hO
                    have Hraw := Lib.hid (And.intro r1 (And.intro r2 r3))
                    have hrr : rows.length ≤ 64 := by have := Hrk.out; omega
                    have eW2 : Ext w2 wr := HW.out.ext (hb3.trans (Ext.trans (Ext.alloc0 _ _) hb4)) (Nat.le_refl _)
                    clear hM HM r1 r2 r3 hcW hfW
                    go_wp2_with (at_builtin; go_loud (refine wpList_append_sl rfl (.tmp 100) (.tmp 102) 80 rfl w2.heap.size 38 ir _ 1 24 Try.underlying80 hir hr0 hr1 hr2 rfl (by decide) _ rows.length raw rfl (own_ext_keep Hraw.out.2.1 (by (repeat' (first | exact Ext.refl _ | assumption | apply Ext.alloc | apply Ext.drew | refine Ext.set ?_ (by dsimp only; omega) _ | refine Ext.trans ?_ (by assumption))))) (some ⟨wr.heap.size, 0, none⟩) 1 1 [.slice A5 acc.length c5] rfl rfl (.inr ⟨_, rfl, new_cells (by simp)⟩) (by intro u hu; simp at hu; rcases hu with rfl; rfl) (by unfold maxLen; omega) (by omega) (by simp; omega) ?_))
                    intro v7 w7 ho7 hg7 hn7
                    have HO7 : Hid (OwnRows w2.heap.size w7 v7 (rows ++ [acc])) := by
                      obtain ⟨r1, r2, r3⟩ := Hraw.out
                      refine OwnRows.snoc rfl r1 (own_ext_keep r2 (Ext.alloc0 _ _)) (fun k hk => ?_) (own_mono (HGW.out.ext (Ext.alloc0 _ _)) (by omega)) hg7 ho7
                      obtain ⟨u, q1, q2⟩ := r3 k hk
                      exact ⟨u, q1, q2.ext (Ext.alloc0 _ _)⟩
                    have HB7 : Hid (Blk w7 w2.heap.size 4 (boolC (marks tk acc))) := Lib.hid ((HM2.out.alloc _).grown hg7 (own_blk Hraw.out.2.1 HM2.out (by decide)))
                    have e7 : Ext w2 w7 := grown_ext (by (repeat' (first | exact Ext.refl _ | assumption | apply Ext.alloc | apply Ext.drew | refine Ext.set ?_ (by dsimp only; omega) _ | refine Ext.trans ?_ (by assumption)))) hg7 (fun b hb => (Hraw.out.2.1.lt b hb).1)
                    clear ho7 hg7 hn7
                    go_wp2_with fail
                    go_roundw
                    case rel => exact ⟨k' + 1, marks tk acc, rows ++ [acc], by omega, by go_num, (marks_len _ _).trans Htk.out, by (show (rows ++ [acc]).length ≤ k' + 1); have := Hrk.out; simp; omega, Hi3.out, HO7.out, HB7.out, e7⟩
                    case measure => simp [intOf]; omega
        · have : k' = m := by omega
          subst this
          have hi := HI.out
          rw [Hml.out, List.drop_length, groupsFrom] at hi
          have E1 := Lib.hid (congrArg Prod.fst hi)
          have E2 := Lib.hid (congrArg Prod.snd hi)
          dsimp only at E1 E2
          have hrr : rows.length ≤ 64 := by have := Hrk.out; omega
          clear hi HI
          obtain ⟨wo, rfl⟩ : ∃ wo : World, wo = wr := ⟨_, rfl⟩
          go_wp2_with fail
          go_loopw [16, 107] (fun v i wr => ∃ (j : Nat) (rr : List (List Int)), j ≤ k ∧ i = .int .i64 j ∧ Hid (rr.length ≤ 64 + j) ∧ Hid (rr ++ singlesFrom (tk.drop j) j = rows ++ singlesFrom tk 0) ∧ Hid (OwnRows w2.heap.size wr v rr) ∧ Hid (Blk wr w2.heap.size 4 (boolC tk)) ∧ Ext w2 wr) (fun _ i _ => k - (intOf i).toNat)
          case atStart => exact ⟨0, rows, Nat.zero_le _, rfl, hrr, rfl, HO.out, HB.out, hb3⟩
          case round =>
            obtain ⟨j, rr, hj, rfl, Hrl, HJ, HQ, HV, hb4⟩ := hrel
            obtain ⟨hcb4, hfb4, hzb4⟩ := bcell hb4
            have hT4 : w2.heap.size < wr.heap.size := HV.out.lt
            by_cases hlt2 : j < k
            · have htl : j < tk.length := by rw [Htk.out]; exact hlt2
              have hTc : wr.cell? ⟨w2.heap.size, j, none⟩ = some (.bool (tk.getD j false)) := by rw [HV.out.cell j, boolC_get _ _ htl]
              have hjj := HJ.out
              rw [List.drop_eq_getElem_cons htl, singlesFrom] at hjj
              have hgd : tk.getD j false = tk[j] := by simp [List.getD_eq_getElem?_getD, htl]
              rw [← hgd] at hjj
              generalize tk.getD j false = b at hTc hjj
              have Hj := Lib.hid hjj
              clear hjj hgd
              cases b
              · obtain ⟨raw, r1, r2, r3⟩ := HQ.out
                have Hraw := Lib.hid (And.intro r1 (And.intro r2 r3))
                have hrl : rr.length ≤ 80 := by have := Hrl.out; omega
                clear r1 r2 r3
                go_wp2_with (at_builtin; go_loud (refine wpList_append_sl rfl (.tmp 115) (.tmp 118) 80 rfl w2.heap.size 38 ir _ 1 24 Try.underlying80 hir hr0 hr1 hr2 rfl (by decide) _ rr.length raw rfl (own_ext_keep Hraw.out.2.1 (by (repeat' (first | exact Ext.refl _ | assumption | apply Ext.alloc | apply Ext.drew | refine Ext.set ?_ (by dsimp only; omega) _ | refine Ext.trans ?_ (by assumption))))) (some ⟨wr.heap.size + 1, 0, none⟩) 1 1 [.slice (some ⟨wr.heap.size, 0, none⟩) 1 1] rfl rfl (.inr ⟨_, rfl, new_cells (by simp)⟩) (by intro u hu; simp at hu; rcases hu with rfl; rfl) (by unfold maxLen; omega) (by omega) (by simp; omega) ?_))
                intro v7 w7 ho7 hg7 hn7
                have HO7 : Hid (OwnRows w2.heap.size w7 v7 (rr ++ [[(j : Int)]])) := by
                  obtain ⟨r1, r2, r3⟩ := Hraw.out
                  refine OwnRows.snoc rfl r1 (own_ext_keep r2 ((Ext.alloc0 _ _).alloc _)) (fun k hk => ?_) (OwnInts.ext (l := [(j : Int)]) (own_one rfl (by omega)) (Ext.alloc0 _ _)) hg7 ho7
                  obtain ⟨u, q1, q2⟩ := r3 k hk
                  exact ⟨u, q1, q2.ext ((Ext.alloc0 _ _).alloc _)⟩
                have HB7 : Hid (Blk w7 w2.heap.size 4 (boolC tk)) := Lib.hid (((HV.out.alloc _).alloc _).grown hg7 (own_blk Hraw.out.2.1 HV.out (by decide)))
                have e7 : Ext w2 w7 := grown_ext (by (repeat' (first | exact Ext.refl _ | assumption | apply Ext.alloc | apply Ext.drew | refine Ext.set ?_ (by dsimp only; omega) _ | refine Ext.trans ?_ (by assumption)))) hg7 (fun b hb => (Hraw.out.2.1.lt b hb).1)
                clear ho7 hg7 hn7
                go_wp2_with fail
                go_roundw
                case rel => exact ⟨j + 1, rr ++ [[(j : Int)]], by omega, by go_num, by (show (rr ++ [[(j : Int)]]).length ≤ 64 + (j + 1)); have := Hrl.out; simp; omega, by have hi := Hj.out; simpa [Hid] using hi, HO7.out, HB7.out, e7⟩
                case measure => simp [intOf]; omega
              · go_wp2_with fail
                go_roundw
                case rel => exact ⟨j + 1, rr, by omega, by go_num, Nat.le_succ_of_le Hrl.out, by have hi := Hj.out; simpa [Hid] using hi, HQ.out, HV.out, hb4⟩
                case measure => simp [intOf]; omega
            · have : j = k := by omega
              subst this
              have hjj := HJ.out
              rw [List.drop_of_length_le (by rw [Htk.out]; exact Nat.le_refl _), singlesFrom, List.append_nil, E1.out, E2.out] at hjj
              obtain ⟨A9, c9, hv, hL9⟩ := HQ.out.sl
              rw [hjj] at hv hL9
              have HL9 := Lib.hid hL9
              subst hv
              clear hjj hL9 HJ HQ
              go_wp2_with fail
              go_ret2
              exact ⟨A9, c9, rfl, HL9.out, by (repeat' (first | exact Ext.refl _ | assumption | apply Ext.alloc | apply Ext.drew | refine Ext.set ?_ (by dsimp only; omega) _ | refine Ext.trans ?_ (by assumption)))⟩
end Go.Proofs.Ytmgjjgmadiabfaa
