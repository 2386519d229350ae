/- Missions and campaigns that are valid: the program. No condition. What a mission does, its parts: the program. No condition. Campaigns that are valid, or which error: the program. No condition. -/
import Derived.Test.YtiladlangkjoiaaGreatPushMem
import Derived.Test.YtiladlangkjoiaaGreatPushLaw
import Derived.Test.YtiladlangkjoiaaGreatOwnMis
import Derived.Test.YtiladlangkjoiaaGreatForceOps
namespace Go.Proofs.YtiladlangkjoiaaGreat
open Go.RowKit

set_option maxHeartbeats 400000 in
theorem pWithin_c (a b c : Int) (w : World) :
    Calls Tryz.prog 90 #[.int .i64 a, .int .i64 b, .int .i64 c] w fun e w' => e = .returned (.bool (within a b c)) ∧ Ext w w' := by
  go_enter Tryz.func90, Tryz.ntmps90
  go_wp2
  all_goals go_ret
  all_goals exact ⟨ret_b (by simp [within, *] <;> omega), Ext.refl _⟩
set_option maxHeartbeats 400000 in
theorem pCheckSpan_c (lo hi a b : Int) (w : World) :
    Calls Tryz.prog 91 #[.agg #[.int .i64 lo, .int .i64 hi], .int .i64 a, .int .i64 b] w fun e w' => e = .returned (.int .i64 (boundErr ⟨lo, hi⟩ a b)) ∧ Ext w w' := by
  unfold boundErr
  dsimp only
  by_cases h1 : hi < lo
  · rw [if_pos h1]
    go_enter Tryz.func91, Tryz.ntmps91
    go_wp2_with fail
    go_ret
    exact ⟨rfl, ext_by⟩
  · rw [if_neg h1]
    by_cases h2 : lo < a
    · rw [if_pos (.inl h2)]
      go_enter Tryz.func91, Tryz.ntmps91
      go_wp2_with fail
      go_ret
      exact ⟨rfl, ext_by⟩
    · by_cases h3 : b < hi
      · rw [if_pos (.inr h3)]
        go_enter Tryz.func91, Tryz.ntmps91
        go_wp2_with fail
        go_ret
        exact ⟨rfl, ext_by⟩
      · rw [if_neg (by omega)]
        go_enter Tryz.func91, Tryz.ntmps91
        go_wp2_with fail
        go_ret
        exact ⟨rfl, ext_by⟩
set_option maxHeartbeats 400000 in
theorem pCheckBody_c (lo hi : Int) (w : World) :
    Calls Tryz.prog 94 #[.agg #[.int .i64 lo, .int .i64 hi]] w fun e w' => e = .returned (.int .i64 (boundErr ⟨lo, hi⟩ 1 1099511627776)) ∧ Ext w w' := by
  have H := Lib.hid fun W => pCheckSpan_c lo hi 1 1099511627776 W
  generalize boundErr _ _ _ = E at *
  go_enter Tryz.func94, Tryz.ntmps94
  go_wp2_with fail
  refine (H.out _).mono ?_
  rintro e w1 ⟨rfl, h1⟩
  obtain ⟨hc_w1, hf_w1, hz_w1⟩ := bcell h1; (try simp only [szA] at hz_w1); (try have := wz0 w w1); (try have := wz1 w w1); (try have := wz2 w w1); (try have := wz3 w w1); (try have := wz4 w w1)
  go_wp2_with fail
  go_ret
  exact ⟨rfl, ext_by⟩
structure Bd where
  lo : Int
  hi : Int
  a : Int
  b : Int
def bdC (x : Bd) : List Value := [.int .i64 x.lo, .int .i64 x.hi, .int .i64 x.a, .int .i64 x.b]
def bdAt (w : World) (x : Bd) (b o : Nat) : Prop := w.cell? ⟨b, o, none⟩ = some (.int .i64 x.lo) ∧ w.cell? ⟨b, o + 1, none⟩ = some (.int .i64 x.hi) ∧ w.cell? ⟨b, o + 2, none⟩ = some (.int .i64 x.a) ∧ w.cell? ⟨b, o + 3, none⟩ = some (.int .i64 x.b)
theorem bdAt.ext {w w' : World} (e : Ext w w') {x : Bd} {b o : Nat} (h : bdAt w x b o) : bdAt w' x b o := ⟨e.cell h.1, e.cell h.2.1, e.cell h.2.2.1, e.cell h.2.2.2⟩
theorem bd_read (w : World) (x : Bd) (b o : Nat) (h : ∀ i u, (bdC x)[i]? = some u → w.cell? ⟨b, o + i, none⟩ = some u) : bdAt w x b o := ⟨h 0 _ rfl, h 1 _ rfl, h 2 _ rfl, h 3 _ rfl⟩
theorem bd_slice {w : World} {b : Nat} {t : TypeId} (l : List Bd) (h : Blk w b t (l.flatMap bdC).toArray) (hn : l.length ≤ 9223372036854775807) : SlR 4 (bdAt w) (some ⟨b, 0, none⟩) l.length l := sl_blk (fun _ => rfl) (fun x b o => bd_read w x b o) h hn
def bdErr : List Bd → Int
  | [] => 0
  | x :: l => if boundErr ⟨x.lo, x.hi⟩ x.a x.b = 0 then bdErr l else boundErr ⟨x.lo, x.hi⟩ x.a x.b
def bdL (m : Mis) : List Bd := [⟨m.mass.lo, m.mass.hi, 1, 1048576⟩, ⟨m.power.lo, m.power.hi, 0, 1099511627776⟩, ⟨m.mult.lo, m.mult.hi, 1000, 10000⟩]
def misTail (m : Mis) : Int :=
  if bdErr (bdL m) ≠ 0 then bdErr (bdL m) else if (within m.dir.x (-4096) 4096 && within m.dir.y (-4096) 4096) && within m.cost 0 1000 then 0 else 2
theorem misErr_tail {m : Mis} (h1 : 1 ≤ m.kind ∧ m.kind ≤ 4) (h2 : 0 ≤ m.launch ∧ m.launch < m.arrive ∧ m.arrive ≤ 1073741824) (h3 : 1 ≤ m.dur ∧ m.dur ≤ 100) : misErr m = misTail m := by
  have hbd : bdErr (bdL m) = if boundErr m.mass 1 1048576 = 0 then (if boundErr m.power 0 1099511627776 = 0 then (if boundErr m.mult 1000 10000 = 0 then 0 else boundErr m.mult 1000 10000) else boundErr m.power 0 1099511627776) else boundErr m.mass 1 1048576 := rfl
  unfold misErr misTail
  rw [if_neg (by omega), if_neg (by omega), hbd]
  by_cases k1 : boundErr m.mass 1 1048576 = 0
  · by_cases k2 : boundErr m.power 0 1099511627776 = 0
    · by_cases k3 : boundErr m.mult 1000 10000 = 0
      · simp [k1, k2, k3]
      · simp [k1, k2, k3]
    · simp [k1, k2]
  · simp [k1]
set_option maxRecDepth 20000 in
set_option maxHeartbeats 4000000 in
theorem pCheckMission_c (m : Mis) (w : World) :
    Calls Tryz.prog 24 #[.agg #[.int .i64 m.kind, .int .i64 m.launch, .int .i64 m.arrive, .int .i64 m.dur, .int .i64 m.mass.lo, .int .i64 m.mass.hi, .int .i64 m.power.lo, .int .i64 m.power.hi, .int .i64 m.mult.lo, .int .i64 m.mult.hi, .int .i64 m.dir.x, .int .i64 m.dir.y, .bool m.reserve, .int .i64 m.cost]] w fun e w' => e = .returned (.int .i64 (misErr m)) ∧ Ext w w' := by
  have HW := Lib.hid fun x a b W => pWithin_c x a b W
  have HB := Lib.hid fun lo hi a b W => pCheckSpan_c lo hi a b W
  obtain ⟨R, hR⟩ : ∃ R, misErr m = R := ⟨_, rfl⟩
  rw [hR]
  have HR := Lib.hid hR
  clear hR
  by_cases h1 : m.kind < 1 ∨ 4 < m.kind
  · have h2 : R = 4 := by rw [← HR.out, misErr, if_pos h1]
    subst h2
    rcases h1 with h1 | h1
    all_goals
      go_enter Tryz.func24, Tryz.ntmps24
      go_wp2_with fail
      go_ret
      exact ⟨rfl, ext_by⟩
  · obtain ⟨h1a, h1b⟩ : 1 ≤ m.kind ∧ m.kind ≤ 4 := by omega
    clear h1
    by_cases h2 : m.launch < 0 ∨ m.arrive ≤ m.launch ∨ 1073741824 < m.arrive
    · have h3 : R = 2 := by rw [← HR.out, misErr, if_neg (by omega), if_pos (by omega)]
      subst h3
      by_cases h4 : m.launch < 0
      · go_enter Tryz.func24, Tryz.ntmps24
        go_wp2_with fail
        go_ret
        exact ⟨rfl, ext_by⟩
      · by_cases h5 : m.arrive ≤ m.launch
        · go_enter Tryz.func24, Tryz.ntmps24
          go_wp2_with fail
          go_ret
          exact ⟨rfl, ext_by⟩
        · have h6 : 1073741824 < m.arrive := by omega
          go_enter Tryz.func24, Tryz.ntmps24
          go_wp2_with fail
          go_ret
          exact ⟨rfl, ext_by⟩
    · obtain ⟨h2a, h2b, h2c⟩ : 0 ≤ m.launch ∧ m.launch < m.arrive ∧ m.arrive ≤ 1073741824 := by omega
      have hf := HW.out m.dur 1 100
      cases hd : within m.dur 1 100
      · have h3 : R = 2 := by
          have : ¬ (1 ≤ m.dur ∧ m.dur ≤ 100) := fun h => by rw [(within_iff _ _ _).2 h] at hd; cases hd
          rw [← HR.out, misErr, if_neg (by omega), if_pos (by omega)]
        subst h3
        rw [hd] at hf
        have HF := Lib.hid hf
        clear hf hd h2
        go_enter Tryz.func24, Tryz.ntmps24
        go_wp2_with fail
        refine (HF.out _).mono ?_
        rintro e w1 ⟨rfl, h1⟩
        obtain ⟨hc_w1, hf_w1, hz_w1⟩ := bcell h1; (try simp only [szA] at hz_w1); (try have := wz0 w w1); (try have := wz1 w w1); (try have := wz2 w w1); (try have := wz3 w w1); (try have := wz4 w w1)
        go_wp2_with fail
        go_ret
        exact ⟨rfl, ext_by⟩
      · have HT : Hid (misTail m = R) := by
          have := misErr_tail (m := m) (by omega) (by omega) ((within_iff _ _ _).1 hd)
          exact this.symm.trans HR.out
        rw [hd] at hf
        have HF := Lib.hid hf
        clear hf hd h2 HR
        go_enter Tryz.func24, Tryz.ntmps24
        go_wp2_with fail
        refine (HF.out _).mono ?_
        rintro e w1 ⟨rfl, h1'⟩
        have B1 : Blk w1 w.heap.size 30 #[.int .i64 m.kind, .int .i64 m.launch, .int .i64 m.arrive, .int .i64 m.dur, .int .i64 m.mass.lo, .int .i64 m.mass.hi, .int .i64 m.power.lo, .int .i64 m.power.hi, .int .i64 m.mult.lo, .int .i64 m.mult.hi, .int .i64 m.dir.x, .int .i64 m.dir.y, .bool m.reserve, .int .i64 m.cost] := (Blk.newAt (by simp)).ext h1'
        have E1 : Ext w w1 := ext_by
        clear h1' HF
        have c_B1 := B1.cell; have f_B1 := B1.frozen; have l_B1 := B1.lt
        go_wp2_with fail
        have hl : SlR 4 (bdAt (w1.alloc (.cells #[.int .i64 m.mass.lo, .int .i64 m.mass.hi, .int .i64 1, .int .i64 1048576, .int .i64 m.power.lo, .int .i64 m.power.hi, .int .i64 0, .int .i64 1099511627776, .int .i64 m.mult.lo, .int .i64 m.mult.hi, .int .i64 1000, .int .i64 10000] 136))) (some ⟨w1.heap.size, 0, none⟩) 3 (bdL m) := bd_slice (bdL m) (Blk.newAt rfl) (by simp [bdL])
        have B2 := B1.alloc (.cells #[.int .i64 m.mass.lo, .int .i64 m.mass.hi, .int .i64 1, .int .i64 1048576, .int .i64 m.power.lo, .int .i64 m.power.hi, .int .i64 0, .int .i64 1099511627776, .int .i64 m.mult.lo, .int .i64 m.mult.hi, .int .i64 1000, .int .i64 10000] 136)
        have E2 : Ext w (w1.alloc (.cells #[.int .i64 m.mass.lo, .int .i64 m.mass.hi, .int .i64 1, .int .i64 1048576, .int .i64 m.power.lo, .int .i64 m.power.hi, .int .i64 0, .int .i64 1099511627776, .int .i64 m.mult.lo, .int .i64 m.mult.hi, .int .i64 1000, .int .i64 10000] 136)) := E1.alloc _
        clear c_B1 f_B1 l_B1
        have HBL : Hid (∃ L, L = bdL m) := ⟨_, rfl⟩
        obtain ⟨L, hL⟩ := HBL.out
        have hLl : Hid (L.length = 3) := by rw [hL]; rfl
        unfold misTail at HT
        rw [← hL] at HT hl
        clear hL HBL B1 E1
        revert hl B2 E2
        generalize w1.alloc _ = w2
        intro B2 E2 hl
        go_loopw [48] (fun i wr => ∃ k : Nat, k ≤ 3 ∧ i = .int .i64 k ∧ Hid (bdErr (L.drop k) = bdErr L) ∧ Ext w2 wr) (fun i _ => 3 - (intOf i).toNat)
        case atStart => exact ⟨0, by omega, rfl, rfl, Ext.refl _⟩
        case round =>
          obtain ⟨k, hk, rfl, HI, hb⟩ := hrel
          have B3 := B2.ext hb
          have E3 := E2.trans hb
          have c_B3 := B3.cell; have f_B3 := B3.frozen; have l_B3 := B3.lt
          by_cases hlt : k < 3
          · obtain ⟨b, off, x, hA, HD, hxm, hx⟩ := hl.one hlt
            injection hA with hA
            injection hA with hA1 hA2
            subst hA1 hA2
            obtain ⟨x0, x1, x2, x3⟩ := bdAt.ext hb hx
            simp only [Nat.zero_add] at x0 x1 x2 x3
            have hbl := World.block_lt_of_cell? wr _ x0
            have HX := Lib.hid fun W => pCheckSpan_c x.lo x.hi x.a x.b W
            have hi := HI.out
            rw [HD.out, bdErr] at hi
            generalize boundErr ⟨x.lo, x.hi⟩ x.a x.b = E at *
            have Hi := Lib.hid hi
            clear hi hx hxm hl
            by_cases hE : E = 0
            · subst hE
              go_wp2_with fail
              refine (HX.out _).mono ?_
              rintro e w3 ⟨rfl, h3⟩
              obtain ⟨hc_w3, hf_w3, hz_w3⟩ := bcell h3; (try simp only [szA] at hz_w3); (try have := wz0 w w3); (try have := wz1 w w3); (try have := wz2 w w3); (try have := wz3 w w3); (try have := wz4 w w3)
              go_wp2_with fail
              go_roundw
              case rel => exact ⟨k + 1, by omega, by go_num, Lib.hid (by have := Hi.out; simpa using this), ext_by⟩
              case measure => simp [intOf]; omega
            · go_wp2_with fail
              refine (HX.out _).mono ?_
              rintro e w3 ⟨rfl, h3⟩
              obtain ⟨hc_w3, hf_w3, hz_w3⟩ := bcell h3; (try simp only [szA] at hz_w3); (try have := wz0 w w3); (try have := wz1 w w3); (try have := wz2 w w3); (try have := wz3 w w3); (try have := wz4 w w3)
              go_wp2_with fail
              go_ret
              refine ⟨ret_i ?_, ext_by⟩
              have h5 := Hi.out
              rw [if_neg hE] at h5
              rw [← HT.out, ← h5, if_pos hE]
          · obtain rfl : k = 3 := by omega
            have hz : bdErr L = 0 := by
              have := HI.out
              rw [← hLl.out, List.drop_length] at this
              exact this.symm
            rw [hz, if_neg (by simp)] at HT
            have W1 := Lib.hid fun W => HW.out m.dir.x (-4096) 4096 W
            have W2 := Lib.hid fun W => HW.out m.dir.y (-4096) 4096 W
            have W3 := Lib.hid fun W => HW.out m.cost 0 1000 W
            generalize within m.dir.x (-4096) 4096 = b1 at *
            generalize within m.dir.y (-4096) 4096 = b2 at *
            generalize within m.cost 0 1000 = b3 at *
            clear hz HI hl HW HB
            cases b1
            · go_wp2_with fail
              refine (W1.out _).mono ?_
              rintro e w3 ⟨rfl, h3⟩
              obtain ⟨hc_w3, hf_w3, hz_w3⟩ := bcell h3; (try simp only [szA] at hz_w3); (try have := wz0 w w3); (try have := wz1 w w3); (try have := wz2 w w3); (try have := wz3 w w3); (try have := wz4 w w3)
              go_wp2_with fail
              go_ret
              exact ⟨ret_i (by have := HT.out; simpa using this), ext_by⟩
            · cases b2
              · go_wp2_with fail
                refine (W1.out _).mono ?_
                rintro e w3 ⟨rfl, h3⟩
                obtain ⟨hc_w3, hf_w3, hz_w3⟩ := bcell h3; (try simp only [szA] at hz_w3); (try have := wz0 w w3); (try have := wz1 w w3); (try have := wz2 w w3); (try have := wz3 w w3); (try have := wz4 w w3)
                go_wp2_with fail
                refine (W2.out _).mono ?_
                rintro e w4 ⟨rfl, h4⟩
                obtain ⟨hc_w4, hf_w4, hz_w4⟩ := bcell h4; (try simp only [szA] at hz_w4); (try have := wz0 w w4); (try have := wz1 w w4); (try have := wz2 w w4); (try have := wz3 w w4); (try have := wz4 w w4)
                go_wp2_with fail
                go_ret
                exact ⟨ret_i (by have := HT.out; simpa using this), ext_by⟩
              · cases b3
                all_goals go_wp2_with fail
                all_goals refine (W1.out _).mono ?_
                all_goals rintro e w3 ⟨rfl, h3⟩
                all_goals obtain ⟨hc_w3, hf_w3, hz_w3⟩ := bcell h3; (try simp only [szA] at hz_w3); (try have := wz0 w w3); (try have := wz1 w w3); (try have := wz2 w w3); (try have := wz3 w w3); (try have := wz4 w w3)
                all_goals go_wp2_with fail
                all_goals refine (W2.out _).mono ?_
                all_goals rintro e w4 ⟨rfl, h4⟩
                all_goals obtain ⟨hc_w4, hf_w4, hz_w4⟩ := bcell h4; (try simp only [szA] at hz_w4); (try have := wz0 w w4); (try have := wz1 w w4); (try have := wz2 w w4); (try have := wz3 w w4); (try have := wz4 w w4)
                all_goals go_wp2_with fail
                all_goals refine (W3.out _).mono ?_
                all_goals rintro e w5 ⟨rfl, h5⟩
                all_goals obtain ⟨hc_w5, hf_w5, hz_w5⟩ := bcell h5; (try simp only [szA] at hz_w5); (try have := wz0 w w5); (try have := wz1 w w5); (try have := wz2 w w5); (try have := wz3 w w5); (try have := wz4 w w5)
                all_goals go_wp2_with fail
                all_goals go_ret
                all_goals exact ⟨ret_i (by have := HT.out; simpa using this), ext_by⟩
end Go.Proofs.YtiladlangkjoiaaGreat

namespace Go.Proofs.YtiladlangkjoiaaGreat
open Go.RowKit

set_option maxHeartbeats 400000 in
theorem pSole_c (n : Int) (w : World) :
    Calls Tryz.prog 132 #[.int .i64 n] w fun e w' => e = .returned (.agg #[.int .i64 n, .int .i64 n]) ∧ Ext w w' := by
  go_enter Tryz.func132, Tryz.ntmps132
  go_wp2_with fail
  (try simp only [Exit.inBlock, Exit.then]); apply bodyPost_ret; (focus (simp only [results, Tryz.results132]; go_simp; try rfl)); rfl
  exact ⟨rfl, ext_by⟩
set_option maxHeartbeats 1000000 in
theorem pLess_c (al ah bl bh : Int) (w : World) :
    Calls Tryz.prog 174 #[.agg #[.int .i64 al, .int .i64 ah], .agg #[.int .i64 bl, .int .i64 bh]] w fun e w' => e = .returned (.agg #[.int .i64 (subS ⟨al, ah⟩ ⟨bl, bh⟩).lo, .int .i64 (subS ⟨al, ah⟩ ⟨bl, bh⟩).hi]) ∧ Ext w w' := by
  have H := Lib.hid fun W => Sub_c al ah bl bh W
  unfold subS
  generalize subM _ _ = R at *
  obtain ⟨⟨rl, rh⟩, re⟩ := R
  go_enter Tryz.func174, Tryz.ntmps174
  go_wp2_with fail
  refine (H.out _).mono ?_
  rintro e w1 ⟨rfl, h1⟩
  obtain ⟨hc_w1, hf_w1, hz_w1⟩ := bcell h1; (try simp only [szA] at hz_w1); (try have := wz0 w w1); (try have := wz1 w w1); (try have := wz2 w w1); (try have := wz3 w w1); (try have := wz4 w w1)
  go_wp2_with fail
  (try simp only [Exit.inBlock, Exit.then]); apply bodyPost_ret; (focus (simp only [results, Tryz.results174]; go_simp; try rfl)); rfl
  exact ⟨rfl, ext_by⟩
set_option maxHeartbeats 1000000 in
theorem pOver_c (al ah bl bh : Int) (w : World) :
    Calls Tryz.prog 173 #[.agg #[.int .i64 al, .int .i64 ah], .agg #[.int .i64 bl, .int .i64 bh]] w fun e w' => e = .returned (.agg #[.int .i64 (quotS ⟨al, ah⟩ ⟨bl, bh⟩).lo, .int .i64 (quotS ⟨al, ah⟩ ⟨bl, bh⟩).hi]) ∧ Ext w w' := by
  have H := Lib.hid fun W => spQuot_c al ah bl bh W
  unfold quotS
  generalize quotM _ _ = R at *
  obtain ⟨⟨rl, rh⟩, re⟩ := R
  go_enter Tryz.func173, Tryz.ntmps173
  go_wp2_with fail
  refine (H.out _).mono ?_
  rintro e w1 ⟨rfl, h1⟩
  obtain ⟨hc_w1, hf_w1, hz_w1⟩ := bcell h1; (try simp only [szA] at hz_w1); (try have := wz0 w w1); (try have := wz1 w w1); (try have := wz2 w w1); (try have := wz3 w w1); (try have := wz4 w w1)
  go_wp2_with fail
  (try simp only [Exit.inBlock, Exit.then]); apply bodyPost_ret; (focus (simp only [results, Tryz.results173]; go_simp; try rfl)); rfl
  exact ⟨rfl, ext_by⟩
set_option maxRecDepth 4000 in
set_option maxHeartbeats 1000000 in
theorem pTimes_c (al ah : Int) (A : Option Addr) (n c : Nat) (l : List Sp) (w : World) (hl : Sps w A n l) :
    Calls Tryz.prog 289 #[.agg #[.int .i64 al, .int .i64 ah], .slice A n c] w fun e w' => e = .returned (.agg #[.int .i64 (l.foldl mulS ⟨al, ah⟩).lo, .int .i64 (l.foldl mulS ⟨al, ah⟩).hi]) ∧ Ext w w' := by
  have hn := hl.le
  have hln := Lib.hid hl.len
  obtain ⟨T, hT⟩ : ∃ T, l.foldl mulS ⟨al, ah⟩ = T := ⟨_, rfl⟩
  rw [hT]
  have HT := Lib.hid hT
  clear hT
  go_enter Tryz.func289, Tryz.ntmps289
  go_wp2_with fail
  go_loopw [9] (fun i wr => ∃ (k : Nat) (o : Sp), k ≤ n ∧ i = .int .i64 k ∧ Hid ((l.drop k).foldl mulS o = T) ∧ Hid (Blk wr w.heap.size 26 #[.int .i64 o.lo, .int .i64 o.hi]) ∧ Hid (Blk wr (w.heap.size + 1) 26 #[.int .i64 0, .int .i64 0]) ∧ Ext w wr) (fun i _ => n - (intOf i).toNat)
  case atStart => exact ⟨0, ⟨al, ah⟩, Nat.zero_le _, rfl, HT.out, Lib.hid ((Blk.newAt rfl).alloc _), Lib.hid (Blk.newAt (by simp)), ext_by⟩
  case round =>
    obtain ⟨k, o, hk, rfl, HI, HB1, HB0, hb⟩ := hrel
    have hc0 := HB0.out.cell
    have hf0 := HB0.out.frozen
    have hl0 := HB0.out.lt
    have hc1 := HB1.out.cell
    have hf1 := HB1.out.frozen
    have hl1 := HB1.out.lt
    by_cases hlt : k < n
    · obtain ⟨b, off, x, rfl, HD, hxm, hx⟩ := hl.one hlt
      obtain ⟨hx0, hx1⟩ := spAt.ext hb hx
      have hbl : b < wr.heap.size := World.block_lt_of_cell? wr _ hx0
      obtain ⟨ol, oh⟩ := o
      obtain ⟨xl, xh⟩ := x
      have HA := Lib.hid fun W => spMul_c ol oh xl xh W
      have hi := HI.out
      rw [HD.out, List.foldl_cons] at hi
      unfold mulS at hi
      generalize mulM ⟨ol, oh⟩ ⟨xl, xh⟩ = N at *
      obtain ⟨⟨nl, nh⟩, ne⟩ := N
      have Hi := Lib.hid hi
      clear hi hxm hx
      go_wp2_with fail
      refine (HA.out _).mono ?_
      rintro e w1 ⟨rfl, h1⟩
      have HB0' := Lib.hid ((HB0.out.alloc (.cells #[.int .i64 xl, .int .i64 xh] 26)).ext h1)
      have HB1' := Lib.hid ((HB1.out.alloc (.cells #[.int .i64 xl, .int .i64 xh] 26)).ext h1)
      have hE1 : Ext w w1 := ext_by
      clear hc1 hf1 hc0 hf0 hl0 h1 HB1 HB0
      have hc1 := HB1'.out.cell
      have hf1 := HB1'.out.frozen
      have hl1 := HB1'.out.lt
      go_wp2_with fail
      go_roundw
      case rel => exact ⟨k + 1, ⟨nl, nh⟩, by omega, by go_num, Hi, Lib.hid ((HB1'.out.set_ 0 _).set_ 1 _), Lib.hid ((HB0'.out.far (by dsimp only; omega) _).far (by dsimp only; omega) _), (hE1.set (by dsimp only; omega) _).set (by dsimp only; omega) _⟩
      case measure => simp [intOf]; omega
    · have hkn : k = n := by omega
      subst hkn
      have hi := HI.out
      rw [hln.out, List.drop_length, List.foldl_nil] at hi
      subst hi
      go_wp2_with fail
      (try simp only [Exit.inBlock, Exit.then]); apply bodyPost_ret; (focus (simp only [results, Tryz.results289]; go_simp; try rfl)); rfl
      exact ⟨rfl, ext_by⟩
theorem pTimes1_c (al ah bl bh : Int) (g : Nat) (t : TypeId) (c : Nat) (w : World) (hB : Blk w g t #[.int .i64 bl, .int .i64 bh]) :
    Calls Tryz.prog 289 #[.agg #[.int .i64 al, .int .i64 ah], .slice (some ⟨g, 0, none⟩) 1 c] w fun e w' => e = .returned (.agg #[.int .i64 (mulS ⟨al, ah⟩ ⟨bl, bh⟩).lo, .int .i64 (mulS ⟨al, ah⟩ ⟨bl, bh⟩).hi]) ∧ Ext w w' :=
  pTimes_c al ah _ 1 c [⟨bl, bh⟩] w (sp_slice [⟨bl, bh⟩] hB (by simp))
set_option maxRecDepth 4000 in
set_option maxHeartbeats 1000000 in
theorem pSum_c (A : Option Addr) (n c : Nat) (l : List Sp) (w : World) (hl : Sps w A n l) (hs : ∀ s ∈ l, Sm 72057594037927936 s) (h8 : l.length ≤ 8) :
    Calls Tryz.prog 202 #[.slice A n c] w fun e w' => e = .returned (.agg #[.int .i64 (l.foldl sumS ⟨0, 0⟩).lo, .int .i64 (l.foldl sumS ⟨0, 0⟩).hi]) ∧ Ext w w' := by
  have hn := hl.le
  have hln := Lib.hid hl.len
  obtain ⟨T, hT⟩ : ∃ T, l.foldl sumS ⟨0, 0⟩ = T := ⟨_, rfl⟩
  rw [hT]
  have HT := Lib.hid hT
  have HS := Lib.hid hs
  have H8 := Lib.hid h8
  clear hT hs h8
  go_enter Tryz.func202, Tryz.ntmps202
  go_wp2_with fail
  go_loopw [8] (fun i wr => ∃ (k : Nat) (o : Sp), k ≤ n ∧ i = .int .i64 k ∧ Hid ((l.drop k).foldl sumS o = T) ∧ Hid (Sm (k * 72057594037927936) o) ∧ Hid (Blk wr (w.heap.size + 1) 26 #[.int .i64 o.lo, .int .i64 o.hi]) ∧ Hid (Blk wr w.heap.size 26 #[.int .i64 0, .int .i64 0]) ∧ Ext w wr) (fun i _ => n - (intOf i).toNat)
  case atStart => exact ⟨0, ⟨0, 0⟩, Nat.zero_le _, rfl, HT.out, Lib.hid (by simp [Sm]), Lib.hid (Blk.newAt (by simp)), Lib.hid ((Blk.newAt rfl).alloc _), ext_by⟩
  case round =>
    obtain ⟨k, o, hk, rfl, HI, HO, HB1, HB0, hb⟩ := hrel
    have hc0 := HB0.out.cell
    have hf0 := HB0.out.frozen
    have hl0 := HB0.out.lt
    have hc1 := HB1.out.cell
    have hf1 := HB1.out.frozen
    have hl1 := HB1.out.lt
    by_cases hlt : k < n
    · obtain ⟨b, off, x, rfl, HD, hxm, hx⟩ := hl.one hlt
      obtain ⟨hx0, hx1⟩ := spAt.ext hb hx
      have hbl : b < wr.heap.size := World.block_lt_of_cell? wr _ hx0
      obtain ⟨ol, oh⟩ := o
      obtain ⟨xl, xh⟩ := x
      have hi := HI.out
      rw [HD.out, List.foldl_cons] at hi
      have hsm := HO.out.add (HS.out _ hxm)
      have hb1 : -576460752303423488 ≤ ol + xl ∧ ol + xl ≤ 576460752303423488 ∧ -576460752303423488 ≤ oh + xh ∧ oh + xh ≤ 576460752303423488 := by
        have := hln.out
        have := H8.out
        unfold Sm sumS at hsm
        dsimp only at hsm
        omega
      have Hi := Lib.hid hi
      have HSm := Lib.hid hsm
      clear hi hsm hxm hx
      go_wp2_with fail
      go_roundw
      case rel => exact ⟨k + 1, ⟨ol + xl, oh + xh⟩, by omega, by go_num, Hi, Lib.hid (HSm.out.mono (by push_cast; omega)), Lib.hid (((HB1.out.set_ 0 _).set_ 1 _).alloc _), Lib.hid (((HB0.out.far (by dsimp only; omega) _).far (by dsimp only; omega) _).alloc _), ((hb.set (by dsimp only; omega) _).set (by dsimp only; omega) _).alloc _⟩
      case measure => simp [intOf]; omega
    · have hkn : k = n := by omega
      subst hkn
      have hi := HI.out
      rw [hln.out, List.drop_length, List.foldl_nil] at hi
      subst hi
      go_wp2_with fail
      (try simp only [Exit.inBlock, Exit.then]); apply bodyPost_ret; (focus (simp only [results, Tryz.results202]; go_simp; try rfl)); rfl
      exact ⟨rfl, ext_by⟩
theorem pSum2_c (al ah bl bh : Int) (g : Nat) (t : TypeId) (c : Nat) (w : World) (hB : Blk w g t #[.int .i64 al, .int .i64 ah, .int .i64 bl, .int .i64 bh]) (ha : Sm 72057594037927936 ⟨al, ah⟩) (hb : Sm 72057594037927936 ⟨bl, bh⟩) :
    Calls Tryz.prog 202 #[.slice (some ⟨g, 0, none⟩) 2 c] w fun e w' => e = .returned (.agg #[.int .i64 (al + bl), .int .i64 (ah + bh)]) ∧ Ext w w' := by
  have h := pSum_c _ 2 c [⟨al, ah⟩, ⟨bl, bh⟩] w (sp_slice [⟨al, ah⟩, ⟨bl, bh⟩] hB (by simp)) (by intro s h; simp only [List.mem_cons, List.not_mem_nil, or_false] at h; rcases h with rfl | rfl; exact ha; exact hb) (by simp)
  simpa [sumS] using h
set_option maxRecDepth 20000 in
set_option maxHeartbeats 1000000 in
theorem pSpeeds_c (hx hy xl xh yl yh n : Int) (w : World) :
    Calls Tryz.prog 85 #[.agg #[.int .i64 hx, .int .i64 hy], .agg #[.int .i64 xl, .int .i64 xh, .int .i64 yl, .int .i64 yh], .int .i64 n] w fun e w' => e = .returned (arV (speedsM ⟨hx, hy⟩ ⟨⟨xl, xh⟩, ⟨yl, yh⟩⟩ n)) ∧ Ext w w' := by
  have HS := Lib.hid fun k W => pSole_c k W
  have HL := Lib.hid fun a b c d W => pLess_c a b c d W
  have HO := Lib.hid fun a b c d W => pOver_c a b c d W
  unfold arV speedsM
  dsimp only
  go_enter Tryz.func85, Tryz.ntmps85
  go_wp2_with fail
  refine wp_region_forced 19 (Ext _) (Stable.ext _) (Ext.drew (Ext.refl _)) (by kernel_rfl) (by kernel_rfl) ?_
  simp only [List.take_succ_cons, List.take_zero, List.drop_succ_cons, List.drop_zero]
  (repeat' (first | (refine bl_off (by rfl) ?_; simp only [putX]) | (apply bl_op; rfl; (intro w1 h1; obtain ⟨hc, hf, hz⟩ := bcell h1; go_simp; (try go_bits); (first | exact ⟨rfl, Ext.refl _⟩ | (apply gives_call; first | (go_at_call 132; exact HS.out _ _) | (go_at_call 174; exact HL.out _ _ _ _ _) | (go_at_call 173; exact HO.out _ _ _ _ _)) | (go_invoke; go_simp; apply gives_call; first | (go_at_call 132; exact HS.out _ _) | (go_at_call 174; exact HL.out _ _ _ _ _) | (go_at_call 173; exact HO.out _ _ _ _ _)))); simp only [putX]) | (refine bl_split rfl rfl (fun hx => ?_) (fun hx => ?_) <;> simp only [hx])))
  refine bl_nil ?_
  intro w1 h1
  obtain ⟨hc_w1, hf_w1, hz_w1⟩ := bcell h1; (try simp only [szA] at hz_w1); (try have := wz0 w w1); (try have := wz1 w w1); (try have := wz2 w w1); (try have := wz3 w w1); (try have := wz4 w w1)
  go_wp2_with fail
  (try simp only [Exit.inBlock, Exit.then]); apply bodyPost_ret; (focus (simp only [results, Tryz.results85]; go_simp; try rfl)); rfl
  exact ⟨rfl, ext_by⟩
set_option maxRecDepth 20000 in
set_option maxHeartbeats 1000000 in
theorem pSlow_c (xl xh yl yh fast : Int) (w : World) (hf : 1 ≤ fast ∧ fast ≤ 1048576) :
    Calls Tryz.prog 95 #[.agg #[.int .i64 xl, .int .i64 xh, .int .i64 yl, .int .i64 yh], .int .i64 fast] w fun e w' => e = .returned (.bool (slowB ⟨⟨xl, xh⟩, ⟨yl, yh⟩⟩ fast)) ∧ Ext w w' := by
  unfold slowB
  dsimp only
  go_enter Tryz.func95, Tryz.ntmps95
  go_wp2
  all_goals go_ret
  all_goals exact ⟨ret_b (by simp [*] <;> omega), ext_by⟩
set_option maxRecDepth 20000 in
set_option maxHeartbeats 1000000 in
theorem pPlaces_c (xl xh yl yh : Int) (w : World) :
    Calls Tryz.prog 84 #[.agg #[.int .i64 xl, .int .i64 xh, .int .i64 yl, .int .i64 yh]] w fun e w' => e = .returned (.bool (placesB ⟨⟨xl, xh⟩, ⟨yl, yh⟩⟩)) ∧ Ext w w' := by
  have H : Hid (∀ W, Calls Tryz.prog 128 #[.agg #[.int .i64 xl, .int .i64 xh, .int .i64 yl, .int .i64 yh, .int .i64 0, .int .i64 0, .int .i64 0, .int .i64 0]] W fun e w' => e = .returned (.int .i64 (bxErr ⟨⟨xl, xh⟩, ⟨yl, yh⟩, ⟨0, 0⟩, ⟨0, 0⟩⟩)) ∧ Ext W w') := Lib.hid fun W => oCheck_c ⟨⟨xl, xh⟩, ⟨yl, yh⟩, ⟨0, 0⟩, ⟨0, 0⟩⟩ W
  unfold placesB
  dsimp only
  generalize bxErr _ = E at *
  go_enter Tryz.func84, Tryz.ntmps84
  go_wp2_with fail
  refine (H.out _).mono ?_
  rintro e w1 ⟨rfl, h1⟩
  obtain ⟨hc_w1, hf_w1, hz_w1⟩ := bcell h1; (try simp only [szA] at hz_w1); (try have := wz0 w w1); (try have := wz1 w w1); (try have := wz2 w w1); (try have := wz3 w w1); (try have := wz4 w w1)
  go_wp2_with fail
  go_ret
  exact ⟨rfl, ext_by⟩
end Go.Proofs.YtiladlangkjoiaaGreat

namespace Go.Proofs.YtiladlangkjoiaaGreat
open Go.RowKit

section
variable (A1 : Option Addr) (n1 c1 : Nat) (A2 : Option Addr) (n2 c2 : Nat) (C : Camp) (w : World)
set_option maxRecDepth 20000 in
set_option maxHeartbeats 16000000 in
theorem pCamp_c (hM : Miss w A1 n1 C.missions) (hK : Keys w A2 n2 C.keys) :
    Calls Tryz.prog 26 #[.agg #[.slice A1 n1 c1, .int .i64 C.body.lo, .int .i64 C.body.hi, .int .i64 C.fast, .int .i64 C.fails, .int .i64 C.miss, .int .i64 C.ticks, .slice A2 n2 c2]] w fun e w' => e = .returned (.int .i64 (campErr C)) ∧ Ext w w' := by
  have hk0 := hM.le
  have hk2 := hK.le
  have hlen := Lib.hid hM.len
  have HC := Lib.hid fun (m : Mis) W => pCheckMission_c m W
  have HB := Lib.hid fun W => pCheckBody_c C.body.lo C.body.hi W
  have HW := Lib.hid fun n a b W => pWithin_c n a b W
  have HM := Lib.hid fun W (hW : Ext w W) => Miss.ext hW hM
  obtain ⟨T, hT⟩ : ∃ T, campErr C = T := ⟨_, rfl⟩
  rw [hT]
  unfold campErr at hT
  rw [← hM.len, ← hK.len] at hT
  have HT := Lib.hid hT
  have HL : Hid (C.missions = C.missions) := rfl
  generalize C.missions = L at *
  generalize C.body = body at *
  obtain ⟨b1, b2⟩ := body
  dsimp only at HB
  have W1 := Lib.hid fun W => HW.out C.fast 1 1048576 W
  have W2 := Lib.hid fun W => HW.out C.fails 0 3 W
  have W3 := Lib.hid fun W => HW.out C.miss 0 268435456 W
  have W4 := Lib.hid fun W => HW.out C.ticks 1 400 W
  generalize within C.fast 1 1048576 = q1 at *
  generalize within C.fails 0 3 = q2 at *
  generalize within C.miss 0 268435456 = q3 at *
  generalize within C.ticks 1 400 = q4 at *
  generalize C.fast = cf at *
  generalize C.fails = cg at *
  generalize C.miss = cm at *
  generalize C.ticks = ct at *
  generalize boundErr ⟨b1, b2⟩ 1 1099511627776 = EB at *
  clear hT hM hK HL HW
  dsimp only
  go_enter Tryz.func26, Tryz.ntmps26
  by_cases g1 : 6 < n1
  · have hT := HT.out
    rw [if_pos g1] at hT
    clear HT
    go_wp2_with fail
    go_ret
    exact ⟨ret_i hT, ext_by⟩
  · have hT := HT.out
    rw [if_neg g1] at hT
    have HT2 := Lib.hid hT
    clear hT HT
    go_wp2_with fail
    refine name_world _ ?_
    intro w1 hw1
    have B1 : Blk w1 w.heap.size 36 #[.slice A1 n1 c1, .int .i64 b1, .int .i64 b2, .int .i64 cf, .int .i64 cg, .int .i64 cm, .int .i64 ct, .slice A2 n2 c2] := by rw [hw1]; exact Blk.newAt rfl
    have E : Ext w w1 := by rw [hw1]; exact Ext.alloc0 _ _
    clear hw1
    go_loopw [14] (fun i wr => ∃ k : Nat, k ≤ n1 ∧ i = .int .i64 k ∧ Hid (missErr (L.drop k) = missErr L) ∧ Hid (Blk wr w.heap.size 36 #[.slice A1 n1 c1, .int .i64 b1, .int .i64 b2, .int .i64 cf, .int .i64 cg, .int .i64 cm, .int .i64 ct, .slice A2 n2 c2]) ∧ Ext w wr) (fun i _ => n1 - (intOf i).toNat)
    case atStart => exact ⟨0, Nat.zero_le _, rfl, Lib.hid rfl, Lib.hid B1, E⟩
    case round =>
      obtain ⟨k, hk, rfl, HI, HB1, hb⟩ := hrel
      clear B1 E
      have B1 := HB1.out
      clear HB1
      by_cases hlt : k < n1
      · obtain ⟨mb, off, x, rfl, HDr, hxm, hx⟩ := (HM.out _ hb).one hlt
        obtain ⟨m0, m1, m2, m3, m4, m5, m6, m7, m8, m9, m10, m11, m12, m13⟩ := hx
        have hbl : mb < wr.heap.size := World.block_lt_of_cell? wr _ m0
        have hi := HI.out
        rw [HDr.out, missErr] at hi
        have HX := Lib.hid (HC.out x)
        generalize misErr x = EX at *
        have Hi := Lib.hid hi
        have hk1 : k + 1 ≤ n1 := hlt
        clear hi HC HI
        have c_B1 := B1.cell; have f_B1 := B1.frozen; have l_B1 := B1.lt
        go_wp2_with fail
        refine (HX.out _).mono ?_
        rintro e w2 ⟨rfl, h2⟩
        clear c_B1 f_B1 l_B1
        have E2 : Ext w w2 := hb.trans ((Ext.alloc0 _ _).trans h2)
        replace B1 := (B1.alloc _).ext h2
        clear h2 m1 m2 m3 m4 m5 m6 m7 m8 m9 m10 m11 m12 m13 m0 HX hb
        by_cases gx : EX = 0
        · subst gx
          go_wp2_with fail
          go_roundw
          case rel => exact ⟨k + 1, hk1, by go_num, Lib.hid (by have := Hi.out; simpa using this), Lib.hid B1, E2⟩
          case measure => simp [intOf]; omega
        · go_wp2_with fail
          go_ret
          refine ⟨ret_i ?_, E2⟩
          have h5 := Hi.out
          rw [if_neg gx] at h5
          have h6 := HT2.out
          rw [← h5, if_pos gx] at h6
          exact h6
      · have hkn : k = n1 := by omega
        subst hkn
        have hz : missErr L = 0 := by
          have := HI.out
          rw [hlen.out, List.drop_length] at this
          exact this.symm
        have hT := HT2.out
        rw [hz, if_neg (by simp)] at hT
        have HT3 := Lib.hid hT
        clear HT2 HI hz HC hT
        have c_B1 := B1.cell; have f_B1 := B1.frozen; have l_B1 := B1.lt
        go_wp2_with fail
        refine (HB.out _).mono ?_
        rintro e w3 ⟨rfl, h3⟩
        clear c_B1 f_B1 l_B1
        replace B1 := B1.ext h3
        replace hb := hb.trans h3
        clear h3
        by_cases gb : EB = 0
        · subst gb
          have hT := HT3.out
          rw [if_neg (by simp)] at hT
          have HT4 := Lib.hid hT
          clear hT HT3
          cases q1
          · have hT := HT4.out
            simp only [Bool.false_and, Bool.false_eq_true, if_false] at hT
            clear W2 W3 W4 HT4
            have c_B1 := B1.cell; have f_B1 := B1.frozen; have l_B1 := B1.lt
            go_wp2_with fail
            refine (W1.out _).mono ?_
            rintro e w4 ⟨rfl, h4⟩
            clear c_B1 f_B1 l_B1
            replace B1 := B1.ext h4; have c_B1 := B1.cell; have f_B1 := B1.frozen; have l_B1 := B1.lt
            replace hb := hb.trans h4
            clear h4 W1
            go_wp2_with fail
            go_ret
            exact ⟨ret_i hT, hb⟩
          cases q2
          · have hT := HT4.out
            simp only [Bool.and_false, Bool.false_and, Bool.false_eq_true, if_false] at hT
            clear W3 W4 HT4
            have c_B1 := B1.cell; have f_B1 := B1.frozen; have l_B1 := B1.lt
            go_wp2_with fail
            refine (W1.out _).mono ?_
            rintro e w4 ⟨rfl, h4⟩
            clear c_B1 f_B1 l_B1
            replace B1 := B1.ext h4; have c_B1 := B1.cell; have f_B1 := B1.frozen; have l_B1 := B1.lt
            replace hb := hb.trans h4
            clear h4 W1
            go_wp2_with fail
            refine (W2.out _).mono ?_
            rintro e w4 ⟨rfl, h4⟩
            clear c_B1 f_B1 l_B1
            replace B1 := B1.ext h4; have c_B1 := B1.cell; have f_B1 := B1.frozen; have l_B1 := B1.lt
            replace hb := hb.trans h4
            clear h4 W2
            go_wp2_with fail
            go_ret
            exact ⟨ret_i hT, hb⟩
          cases q3
          · have hT := HT4.out
            simp only [Bool.and_false, Bool.false_and, Bool.false_eq_true, if_false] at hT
            clear W4 HT4
            have c_B1 := B1.cell; have f_B1 := B1.frozen; have l_B1 := B1.lt
            go_wp2_with fail
            refine (W1.out _).mono ?_
            rintro e w4 ⟨rfl, h4⟩
            clear c_B1 f_B1 l_B1
            replace B1 := B1.ext h4; have c_B1 := B1.cell; have f_B1 := B1.frozen; have l_B1 := B1.lt
            replace hb := hb.trans h4
            clear h4 W1
            go_wp2_with fail
            refine (W2.out _).mono ?_
            rintro e w4 ⟨rfl, h4⟩
            clear c_B1 f_B1 l_B1
            replace B1 := B1.ext h4; have c_B1 := B1.cell; have f_B1 := B1.frozen; have l_B1 := B1.lt
            replace hb := hb.trans h4
            clear h4 W2
            go_wp2_with fail
            refine (W3.out _).mono ?_
            rintro e w4 ⟨rfl, h4⟩
            clear c_B1 f_B1 l_B1
            replace B1 := B1.ext h4; have c_B1 := B1.cell; have f_B1 := B1.frozen; have l_B1 := B1.lt
            replace hb := hb.trans h4
            clear h4 W3
            go_wp2_with fail
            go_ret
            exact ⟨ret_i hT, hb⟩
          cases q4
          · have hT := HT4.out
            simp only [Bool.and_false, Bool.false_eq_true, if_false] at hT
            clear HT4
            have c_B1 := B1.cell; have f_B1 := B1.frozen; have l_B1 := B1.lt
            go_wp2_with fail
            refine (W1.out _).mono ?_
            rintro e w4 ⟨rfl, h4⟩
            clear c_B1 f_B1 l_B1
            replace B1 := B1.ext h4; have c_B1 := B1.cell; have f_B1 := B1.frozen; have l_B1 := B1.lt
            replace hb := hb.trans h4
            clear h4 W1
            go_wp2_with fail
            refine (W2.out _).mono ?_
            rintro e w4 ⟨rfl, h4⟩
            clear c_B1 f_B1 l_B1
            replace B1 := B1.ext h4; have c_B1 := B1.cell; have f_B1 := B1.frozen; have l_B1 := B1.lt
            replace hb := hb.trans h4
            clear h4 W2
            go_wp2_with fail
            refine (W3.out _).mono ?_
            rintro e w4 ⟨rfl, h4⟩
            clear c_B1 f_B1 l_B1
            replace B1 := B1.ext h4; have c_B1 := B1.cell; have f_B1 := B1.frozen; have l_B1 := B1.lt
            replace hb := hb.trans h4
            clear h4 W3
            go_wp2_with fail
            refine (W4.out _).mono ?_
            rintro e w4 ⟨rfl, h4⟩
            clear c_B1 f_B1 l_B1
            replace B1 := B1.ext h4; have c_B1 := B1.cell; have f_B1 := B1.frozen; have l_B1 := B1.lt
            replace hb := hb.trans h4
            clear h4 W4
            go_wp2_with fail
            go_ret
            exact ⟨ret_i hT, hb⟩
          by_cases gk : 40 < n2
          · have hT := HT4.out
            simp only [Bool.and_self, if_true, if_pos gk] at hT
            clear HT4
            have c_B1 := B1.cell; have f_B1 := B1.frozen; have l_B1 := B1.lt
            go_wp2_with fail
            refine (W1.out _).mono ?_
            rintro e w4 ⟨rfl, h4⟩
            clear c_B1 f_B1 l_B1
            replace B1 := B1.ext h4; have c_B1 := B1.cell; have f_B1 := B1.frozen; have l_B1 := B1.lt
            replace hb := hb.trans h4
            clear h4 W1
            go_wp2_with fail
            refine (W2.out _).mono ?_
            rintro e w4 ⟨rfl, h4⟩
            clear c_B1 f_B1 l_B1
            replace B1 := B1.ext h4; have c_B1 := B1.cell; have f_B1 := B1.frozen; have l_B1 := B1.lt
            replace hb := hb.trans h4
            clear h4 W2
            go_wp2_with fail
            refine (W3.out _).mono ?_
            rintro e w4 ⟨rfl, h4⟩
            clear c_B1 f_B1 l_B1
            replace B1 := B1.ext h4; have c_B1 := B1.cell; have f_B1 := B1.frozen; have l_B1 := B1.lt
            replace hb := hb.trans h4
            clear h4 W3
            go_wp2_with fail
            refine (W4.out _).mono ?_
            rintro e w4 ⟨rfl, h4⟩
            clear c_B1 f_B1 l_B1
            replace B1 := B1.ext h4; have c_B1 := B1.cell; have f_B1 := B1.frozen; have l_B1 := B1.lt
            replace hb := hb.trans h4
            clear h4 W4
            go_wp2_with fail
            go_ret
            exact ⟨ret_i hT, hb⟩
          · have hT := HT4.out
            simp only [Bool.and_self, if_true, if_neg gk] at hT
            have HT5 := Lib.hid hT
            clear hT
            clear HT4
            have c_B1 := B1.cell; have f_B1 := B1.frozen; have l_B1 := B1.lt
            go_wp2_with fail
            refine (W1.out _).mono ?_
            rintro e w4 ⟨rfl, h4⟩
            clear c_B1 f_B1 l_B1
            replace B1 := B1.ext h4; have c_B1 := B1.cell; have f_B1 := B1.frozen; have l_B1 := B1.lt
            replace hb := hb.trans h4
            clear h4 W1
            go_wp2_with fail
            refine (W2.out _).mono ?_
            rintro e w4 ⟨rfl, h4⟩
            clear c_B1 f_B1 l_B1
            replace B1 := B1.ext h4; have c_B1 := B1.cell; have f_B1 := B1.frozen; have l_B1 := B1.lt
            replace hb := hb.trans h4
            clear h4 W2
            go_wp2_with fail
            refine (W3.out _).mono ?_
            rintro e w4 ⟨rfl, h4⟩
            clear c_B1 f_B1 l_B1
            replace B1 := B1.ext h4; have c_B1 := B1.cell; have f_B1 := B1.frozen; have l_B1 := B1.lt
            replace hb := hb.trans h4
            clear h4 W3
            go_wp2_with fail
            refine (W4.out _).mono ?_
            rintro e w4 ⟨rfl, h4⟩
            clear c_B1 f_B1 l_B1
            replace B1 := B1.ext h4; have c_B1 := B1.cell; have f_B1 := B1.frozen; have l_B1 := B1.lt
            replace hb := hb.trans h4
            clear h4 W4
            go_wp2_with fail
            go_ret
            exact ⟨ret_i HT5.out, hb⟩
        · have hT := HT3.out
          rw [if_pos gb] at hT
          clear HT3
          go_wp2_with fail
          go_ret
          exact ⟨rfl, hb⟩
end
end Go.Proofs.YtiladlangkjoiaaGreat
