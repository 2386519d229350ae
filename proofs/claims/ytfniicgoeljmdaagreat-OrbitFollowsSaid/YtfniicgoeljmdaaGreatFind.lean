/- What the checks of skies compute, of the program and of the reference. No condition. What the look-ups of stations and catalogs compute. No condition. -/
import Derived.Test.YtfniicgoeljmdaaGreatSpan
namespace Go.Proofs.YtfniicgoeljmdaaGreat
open Go.RowKit

def stnsErr : List Stn → Int → Int
  | [], _ => 0
  | x :: r, last => if x.id ≤ last then 11 else if !near x.off 1048576 then 2 else stnsErr r x.id
def catsErr : List Cat → Int → Int
  | [], _ => 0
  | x :: r, last => if x.version ≤ last then 11 else if x.lo < -500000 ∨ x.hi < x.lo ∨ 500000 < x.hi then 2 else catsErr r x.version
def skyErr (s : Sky) : Int :=
  if wldErr s.world ≠ 0 then wldErr s.world
  else if 16 < s.stations.length then 8
  else if stnsErr s.stations 0 ≠ 0 then stnsErr s.stations 0
  else if 8 < s.catalogs.length then 8
  else catsErr s.catalogs 0

set_option maxHeartbeats 1000000 in
theorem Check_c (A1 : Option Addr) (n1 c1 : Nat) (home : Int) (A2 : Option Addr) (n2 c2 : Nat) (A3 : Option Addr) (n3 c3 : Nat) (s : Sky) (w : World) (hs : IsSky w A1 n1 home A2 n2 A3 n3 s) :
    Calls Tryz.prog 103 #[.agg #[.slice A1 n1 c1, .int .i64 home, .slice A2 n2 c2, .slice A3 n3 c3]] w fun e w' => e = .returned (.int .i64 (skyErr s)) ∧ Ext w w' := by
  have hl1 := hs.bodies
  have hl2 := hs.stations
  have hl3 := hs.catalogs
  have hn2 := hl2.le
  have hn3 := hl3.le
  have hln2 := Lib.hid hl2.len
  have hln3 := Lib.hid hl3.len
  obtain ⟨M, HM⟩ : ∃ M, wldErr ⟨s.world.bodies, home⟩ = M := ⟨_, rfl⟩
  have HM2 : wldErr s.world = M := by rw [← HM, hs.home]
  have HHM := Lib.hid HM; have HHM2 := Lib.hid HM2; clear HM HM2
  obtain ⟨l2, hl2e⟩ : ∃ l, l = s.stations := ⟨_, rfl⟩
  obtain ⟨l3, hl3e⟩ : ∃ l, l = s.catalogs := ⟨_, rfl⟩
  have HS : skyErr s = if M ≠ 0 then M else if 16 < l2.length then 8 else if stnsErr l2 0 ≠ 0 then stnsErr l2 0 else if 8 < l3.length then 8 else catsErr l3 0 := by
    rw [skyErr, HHM2.out, ← hl2e, ← hl3e]
  have HHS := Lib.hid HS; clear HS
  rw [← hl2e] at hl2 hln2
  rw [← hl3e] at hl3 hln3
  clear hl2e hl3e hs
  by_cases hM : M = 0
  · subst hM
    by_cases h16 : n2 ≤ 16
    · go_enter Tryz.func103, Tryz.ntmps103
      go_wp2_with fail
      refine (CheckWorld_c _ _ _ _ s.world.bodies _ (Bodies.ext (Ext.alloc0 _ _) hl1)).mono ?_
      rw [HHM.out]
      rintro e w1 ⟨rfl, h1⟩; obtain ⟨hc_w1, hf_w1, hz_w1⟩ := bcell h1; (repeat (first | rw [World.size_alloc] at hz_w1 | rw [World.size_drew] at hz_w1 | rw [World.size_setCell] at hz_w1)); have : w.heap.size < w1.heap.size := (by omega)
      go_wp2_with fail
      go_loopw [4, 22] (fun last i wr => ∃ (k : Nat) (m : Int), k ≤ n2 ∧ i = .int .i64 k ∧ last = .int .i64 m ∧ Hid (stnsErr (l2.drop k) m = stnsErr l2 0) ∧ Ext w1 wr) (fun _ i _ => n2 - (intOf i).toNat)
      case atStart => exact ⟨0, 0, Nat.zero_le _, rfl, rfl, rfl, Ext.refl _⟩
      case round =>
        obtain ⟨k, m, hk, rfl, rfl, HI, hb⟩ := hrel
        obtain ⟨hcb, hfb, hzb⟩ := bcell hb
        by_cases hlt : k < n2
        · obtain ⟨b, off, x, rfl, HD, hxm, hx⟩ := hl2.one hlt
          obtain ⟨hx0, hx1, hx2⟩ := stnAt.ext (Ext.trans (by (repeat' (first | exact Ext.refl _ | assumption | apply Ext.alloc | apply Ext.drew | refine Ext.set ?_ (by dsimp only; omega) _ | refine Ext.trans ?_ (by assumption)))) hb) hx
          by_cases hid : x.id ≤ m
          · go_wp2_with fail
            go_ret
            refine ⟨ret_i ?_, by (repeat' (first | exact Ext.refl _ | assumption | apply Ext.alloc | apply Ext.drew | refine Ext.set ?_ (by dsimp only; omega) _ | refine Ext.trans ?_ (by assumption)))⟩
            have hi := HI.out; rw [HD.out] at hi; have h4 := hln2.out; have h5 := HHS.out
            rw [stnsErr, if_pos hid] at hi
            rw [h5, ← hi, if_neg (by simp), if_neg (by omega), if_pos (by decide)]
          · have hid' : m < x.id := by omega
            have hfin : Hid (near x.off 1048576 = false → skyErr s = 2) := by
              intro h7
              have hi := HI.out; rw [HD.out] at hi; have h4 := hln2.out; have h5 := HHS.out
              rw [stnsErr, if_neg hid, h7, if_pos (by decide)] at hi
              rw [h5, ← hi, if_neg (by simp), if_neg (by omega), if_pos (by decide)]
            have hgo : Hid (near x.off 1048576 = true → stnsErr (List.drop (k + 1) l2) x.id = stnsErr l2 0) := by
              intro h7
              have hi := HI.out; rw [HD.out] at hi
              rw [stnsErr, if_neg hid, h7, if_neg (by decide)] at hi
              exact hi
            cases hN : near ⟨x.off.x, x.off.y⟩ 1048576
            · have HN := Lib.hid hN; clear hN
              go_wp2_with fail
              refine (near_c _ _ _ _ (by omega) (by omega)).mono ?_
              rw [HN.out]
              rintro e w2 ⟨rfl, h2⟩; obtain ⟨hc_w2, hf_w2, hz_w2⟩ := bcell h2; (repeat (first | rw [World.size_alloc] at hz_w2 | rw [World.size_drew] at hz_w2 | rw [World.size_setCell] at hz_w2))
              go_wp2_with fail
              go_ret
              exact ⟨ret_i (hfin.out HN.out).symm, by (repeat' (first | exact Ext.refl _ | assumption | apply Ext.alloc | apply Ext.drew | refine Ext.set ?_ (by dsimp only; omega) _ | refine Ext.trans ?_ (by assumption)))⟩
            · have HN := Lib.hid hN; clear hN
              go_wp2_with fail
              refine (near_c _ _ _ _ (by omega) (by omega)).mono ?_
              rw [HN.out]
              rintro e w2 ⟨rfl, h2⟩; obtain ⟨hc_w2, hf_w2, hz_w2⟩ := bcell h2; (repeat (first | rw [World.size_alloc] at hz_w2 | rw [World.size_drew] at hz_w2 | rw [World.size_setCell] at hz_w2))
              go_wp2_with fail
              go_roundw
              case rel => exact ⟨k + 1, x.id, by omega, by go_num, rfl, hgo.out HN.out, by (repeat' (first | exact Ext.refl _ | assumption | apply Ext.alloc | apply Ext.drew | refine Ext.set ?_ (by dsimp only; omega) _ | refine Ext.trans ?_ (by assumption)))⟩
              case measure => simp [intOf]; omega

        · have : k = n2 := by omega
          subst this
          have hi := HI.out; rw [hln2.out, List.drop_length] at hi
          have Hi2 := Lib.hid hi; clear hi
          have hwr0 : w.heap.size < wr.heap.size := by omega
          by_cases h8 : n3 ≤ 8
          · go_wp2_with fail
            go_loopw [4, 46] (fun last i wr2 => ∃ (j : Nat) (m2 : Int), j ≤ n3 ∧ i = .int .i64 j ∧ last = .int .i64 m2 ∧ Hid (catsErr (l3.drop j) m2 = catsErr l3 0) ∧ Ext wr wr2) (fun _ i _ => n3 - (intOf i).toNat)
            case atStart => exact ⟨0, 0, Nat.zero_le _, rfl, rfl, rfl, Ext.refl _⟩
            case round =>
              obtain ⟨j, m2, hj, rfl, rfl, HJ, hb2⟩ := hrel
              obtain ⟨hcb2, hfb2, hzb2⟩ := bcell hb2
              by_cases hlt2 : j < n3
              · obtain ⟨b, off, x, rfl, HD, hxm, hx⟩ := hl3.one hlt2
                obtain ⟨hx0, hx1, hx2⟩ := catAt.ext (Ext.trans (by (repeat' (first | exact Ext.refl _ | assumption | apply Ext.alloc | apply Ext.drew | refine Ext.set ?_ (by dsimp only; omega) _ | refine Ext.trans ?_ (by assumption)))) hb2) hx
                by_cases hid : x.version ≤ m2
                · go_wp2_with fail
                  go_ret
                  refine ⟨ret_i ?_, by (repeat' (first | exact Ext.refl _ | assumption | apply Ext.alloc | apply Ext.drew | refine Ext.set ?_ (by dsimp only; omega) _ | refine Ext.trans ?_ (by assumption)))⟩
                  have hi := HJ.out; rw [HD.out] at hi; have h4 := hln2.out; have h5 := HHS.out; have h6 := Hi2.out; have h7 := hln3.out
                  rw [catsErr, if_pos hid] at hi
                  simp only [stnsErr] at h6
                  rw [h5, ← h6, ← hi, if_neg (by simp), if_neg (by omega), if_neg (by decide), if_neg (by omega)]
                · have hid' : m2 < x.version := by omega
                  by_cases ha : x.lo < -500000 ∨ x.hi < x.lo ∨ 500000 < x.hi
                  · have hi := HJ.out; rw [HD.out] at hi; rw [catsErr, if_neg hid, if_pos ha] at hi
                    have Hi := Lib.hid hi; clear hi
                    rcases ha with ha | ha | ha
                    all_goals go_wp2_with fail
                    all_goals go_ret
                    all_goals refine ⟨ret_i ?_, by (repeat' (first | exact Ext.refl _ | assumption | apply Ext.alloc | apply Ext.drew | refine Ext.set ?_ (by dsimp only; omega) _ | refine Ext.trans ?_ (by assumption)))⟩
                    all_goals have h4 := hln2.out; have h5 := HHS.out; have h6 := Hi2.out; have h7 := hln3.out; have hi := Hi.out
                    all_goals simp only [stnsErr] at h6
                    all_goals rw [h5, ← h6, ← hi, if_neg (by simp), if_neg (by omega), if_neg (by decide), if_neg (by omega)]
                  · have hi := HJ.out; rw [HD.out] at hi; rw [catsErr, if_neg hid, if_neg ha] at hi
                    have Hi := Lib.hid hi; clear hi
                    have ha1 : -500000 ≤ x.lo := by omega
                    have ha2 : x.lo ≤ x.hi := by omega
                    have ha3 : x.hi ≤ 500000 := by omega
                    clear ha
                    go_wp2_with fail
                    go_roundw
                    case rel => exact ⟨j + 1, x.version, by omega, by go_num, rfl, Hi, by (repeat' (first | exact Ext.refl _ | assumption | apply Ext.alloc | apply Ext.drew | refine Ext.set ?_ (by dsimp only; omega) _ | refine Ext.trans ?_ (by assumption)))⟩
                    case measure => simp [intOf]; omega
              · have : j = n3 := by omega
                subst this
                go_wp2_with fail
                go_ret
                refine ⟨ret_i ?_, by (repeat' (first | exact Ext.refl _ | assumption | apply Ext.alloc | apply Ext.drew | refine Ext.set ?_ (by dsimp only; omega) _ | refine Ext.trans ?_ (by assumption)))⟩
                have hi := HJ.out; have h4 := hln2.out; have h5 := HHS.out; have h6 := Hi2.out; have h7 := hln3.out
                rw [h7, List.drop_length] at hi
                simp only [stnsErr, catsErr] at h6 hi
                rw [h5, ← h6, ← hi, if_neg (by simp), if_neg (by omega), if_neg (by decide), if_neg (by omega)]
          · have h8' : 8 < n3 := by omega
            go_wp2_with fail
            go_ret
            refine ⟨ret_i ?_, by (repeat' (first | exact Ext.refl _ | assumption | apply Ext.alloc | apply Ext.drew | refine Ext.set ?_ (by dsimp only; omega) _ | refine Ext.trans ?_ (by assumption)))⟩
            have h4 := hln2.out; have h5 := HHS.out; have h6 := Hi2.out; have h7 := hln3.out
            simp only [stnsErr] at h6
            rw [h5, ← h6, if_neg (by simp), if_neg (by omega), if_neg (by decide), if_pos (by omega)]
    · have h16' : 16 < n2 := by omega
      go_enter Tryz.func103, Tryz.ntmps103
      go_wp2_with fail
      refine (CheckWorld_c _ _ _ _ s.world.bodies _ (Bodies.ext (Ext.alloc0 _ _) hl1)).mono ?_
      rw [HHM.out]
      rintro e w1 ⟨rfl, h1⟩; obtain ⟨hc_w1, hf_w1, hz_w1⟩ := bcell h1; (repeat (first | rw [World.size_alloc] at hz_w1 | rw [World.size_drew] at hz_w1 | rw [World.size_setCell] at hz_w1)); have : w.heap.size < w1.heap.size := (by omega)
      go_wp2_with fail
      go_ret
      refine ⟨ret_i ?_, by (repeat' (first | exact Ext.refl _ | assumption | apply Ext.alloc | apply Ext.drew | refine Ext.set ?_ (by dsimp only; omega) _ | refine Ext.trans ?_ (by assumption)))⟩
      have h4 := hln2.out; have h5 := HHS.out
      rw [h5, if_neg (by simp), if_pos (by omega)]
  · have hM' : (M != 0) = true := by simpa using hM
    go_enter Tryz.func103, Tryz.ntmps103
    go_wp2_with fail
    refine (CheckWorld_c _ _ _ _ s.world.bodies _ (Bodies.ext (Ext.alloc0 _ _) hl1)).mono ?_
    rw [HHM.out]
    rintro e w1 ⟨rfl, h1⟩; obtain ⟨hc_w1, hf_w1, hz_w1⟩ := bcell h1; (repeat (first | rw [World.size_alloc] at hz_w1 | rw [World.size_drew] at hz_w1 | rw [World.size_setCell] at hz_w1)); have : w.heap.size < w1.heap.size := (by omega)
    go_wp2_with fail
    go_ret
    refine ⟨ret_i ?_, by (repeat' (first | exact Ext.refl _ | assumption | apply Ext.alloc | apply Ext.drew | refine Ext.set ?_ (by dsimp only; omega) _ | refine Ext.trans ?_ (by assumption)))⟩
    have h5 := HHS.out
    rw [h5, if_pos hM]


set_option maxHeartbeats 1000000 in
theorem refCheck_c (A1 : Option Addr) (n1 c1 : Nat) (home : Int) (A2 : Option Addr) (n2 c2 : Nat) (A3 : Option Addr) (n3 c3 : Nat) (s : Sky) (w : World) (hs : IsSky w A1 n1 home A2 n2 A3 n3 s) :
    Calls Tryz.prog 112 #[.agg #[.slice A1 n1 c1, .int .i64 home, .slice A2 n2 c2, .slice A3 n3 c3]] w fun e w' => e = .returned (.int .i64 (skyErr s)) ∧ Ext w w' := by
  have hl1 := hs.bodies
  have hl2 := hs.stations
  have hl3 := hs.catalogs
  have hn2 := hl2.le
  have hn3 := hl3.le
  have hln2 := Lib.hid hl2.len
  have hln3 := Lib.hid hl3.len
  obtain ⟨M, HM⟩ : ∃ M, wldErr ⟨s.world.bodies, home⟩ = M := ⟨_, rfl⟩
  have HM2 : wldErr s.world = M := by rw [← HM, hs.home]
  have HHM := Lib.hid HM; have HHM2 := Lib.hid HM2; clear HM HM2
  obtain ⟨l2, hl2e⟩ : ∃ l, l = s.stations := ⟨_, rfl⟩
  obtain ⟨l3, hl3e⟩ : ∃ l, l = s.catalogs := ⟨_, rfl⟩
  have HS : skyErr s = if M ≠ 0 then M else if 16 < l2.length then 8 else if stnsErr l2 0 ≠ 0 then stnsErr l2 0 else if 8 < l3.length then 8 else catsErr l3 0 := by
    rw [skyErr, HHM2.out, ← hl2e, ← hl3e]
  have HHS := Lib.hid HS; clear HS
  rw [← hl2e] at hl2 hln2
  rw [← hl3e] at hl3 hln3
  clear hl2e hl3e hs
  by_cases hM : M = 0
  · subst hM
    by_cases h16 : n2 ≤ 16
    · go_enter Tryz.func112, Tryz.ntmps112
      go_wp2_with fail
      refine (refWorld_c _ _ _ _ s.world.bodies _ (Bodies.ext (Ext.alloc0 _ _) hl1)).mono ?_
      rw [HHM.out]
      rintro e w1 ⟨rfl, h1⟩; obtain ⟨hc_w1, hf_w1, hz_w1⟩ := bcell h1; (repeat (first | rw [World.size_alloc] at hz_w1 | rw [World.size_drew] at hz_w1 | rw [World.size_setCell] at hz_w1)); have : w.heap.size < w1.heap.size := (by omega)
      go_wp2_with fail
      go_loopw [4, 5] (fun last i wr => ∃ (k : Nat) (m : Int), k ≤ n2 ∧ i = .int .i64 k ∧ last = .int .i64 m ∧ Hid (stnsErr (l2.drop k) m = stnsErr l2 0) ∧ Ext w1 wr) (fun _ i _ => n2 - (intOf i).toNat)
      case atStart => exact ⟨0, 0, Nat.zero_le _, rfl, rfl, rfl, Ext.refl _⟩
      case round =>
        obtain ⟨k, m, hk, rfl, rfl, HI, hb⟩ := hrel
        obtain ⟨hcb, hfb, hzb⟩ := bcell hb
        by_cases hlt : k < n2
        · obtain ⟨b, off, x, rfl, HD, hxm, hx⟩ := hl2.one hlt
          obtain ⟨hx0, hx1, hx2⟩ := stnAt.ext (Ext.trans (by (repeat' (first | exact Ext.refl _ | assumption | apply Ext.alloc | apply Ext.drew | refine Ext.set ?_ (by dsimp only; omega) _ | refine Ext.trans ?_ (by assumption)))) hb) hx
          by_cases hid : x.id ≤ m
          · go_wp2_with fail
            go_ret
            refine ⟨ret_i ?_, by (repeat' (first | exact Ext.refl _ | assumption | apply Ext.alloc | apply Ext.drew | refine Ext.set ?_ (by dsimp only; omega) _ | refine Ext.trans ?_ (by assumption)))⟩
            have hi := HI.out; rw [HD.out] at hi; have h4 := hln2.out; have h5 := HHS.out
            rw [stnsErr, if_pos hid] at hi
            rw [h5, ← hi, if_neg (by simp), if_neg (by omega), if_pos (by decide)]
          · have hid' : m < x.id := by omega
            have hfin : Hid (near x.off 1048576 = false → skyErr s = 2) := by
              intro h7
              have hi := HI.out; rw [HD.out] at hi; have h4 := hln2.out; have h5 := HHS.out
              rw [stnsErr, if_neg hid, h7, if_pos (by decide)] at hi
              rw [h5, ← hi, if_neg (by simp), if_neg (by omega), if_pos (by decide)]
            have hgo : Hid (near x.off 1048576 = true → stnsErr (List.drop (k + 1) l2) x.id = stnsErr l2 0) := by
              intro h7
              have hi := HI.out; rw [HD.out] at hi
              rw [stnsErr, if_neg hid, h7, if_neg (by decide)] at hi
              exact hi
            cases hX : within x.off.x (-1048576) 1048576
            · have h7 : Hid (near x.off 1048576 = false) := by simp [Hid, near, hX]
              go_wp2_with (go_at_call 133; refine (between_c _ _ _ _).mono ?_; rintro e w1 ⟨rfl, rfl⟩)
              go_ret
              exact ⟨ret_i (hfin.out h7.out).symm, by (repeat' (first | exact Ext.refl _ | assumption | apply Ext.alloc | apply Ext.drew | refine Ext.set ?_ (by dsimp only; omega) _ | refine Ext.trans ?_ (by assumption)))⟩
            cases hY : within x.off.y (-1048576) 1048576
            · have h7 : Hid (near x.off 1048576 = false) := by simp [Hid, near, hY]
              go_wp2_with (go_at_call 133; refine (between_c _ _ _ _).mono ?_; rintro e w1 ⟨rfl, rfl⟩)
              go_ret
              exact ⟨ret_i (hfin.out h7.out).symm, by (repeat' (first | exact Ext.refl _ | assumption | apply Ext.alloc | apply Ext.drew | refine Ext.set ?_ (by dsimp only; omega) _ | refine Ext.trans ?_ (by assumption)))⟩
            · have h7 : Hid (near x.off 1048576 = true) := by simp [Hid, near, hX, hY]
              go_wp2_with (go_at_call 133; refine (between_c _ _ _ _).mono ?_; rintro e w1 ⟨rfl, rfl⟩)
              go_roundw
              case rel => exact ⟨k + 1, x.id, by omega, by go_num, rfl, hgo.out h7.out, by (repeat' (first | exact Ext.refl _ | assumption | apply Ext.alloc | apply Ext.drew | refine Ext.set ?_ (by dsimp only; omega) _ | refine Ext.trans ?_ (by assumption)))⟩
              case measure => simp [intOf]; omega

        · have : k = n2 := by omega
          subst this
          have hi := HI.out; rw [hln2.out, List.drop_length] at hi
          have Hi2 := Lib.hid hi; clear hi
          have hwr0 : w.heap.size < wr.heap.size := by omega
          by_cases h8 : n3 ≤ 8
          · go_wp2_with fail
            go_loopw [4, 7] (fun last i wr2 => ∃ (j : Nat) (m2 : Int), j ≤ n3 ∧ i = .int .i64 j ∧ last = .int .i64 m2 ∧ Hid (catsErr (l3.drop j) m2 = catsErr l3 0) ∧ Ext wr wr2) (fun _ i _ => n3 - (intOf i).toNat)
            case atStart => exact ⟨0, 0, Nat.zero_le _, rfl, rfl, rfl, Ext.refl _⟩
            case round =>
              obtain ⟨j, m2, hj, rfl, rfl, HJ, hb2⟩ := hrel
              obtain ⟨hcb2, hfb2, hzb2⟩ := bcell hb2
              by_cases hlt2 : j < n3
              · obtain ⟨b, off, x, rfl, HD, hxm, hx⟩ := hl3.one hlt2
                obtain ⟨hx0, hx1, hx2⟩ := catAt.ext (Ext.trans (by (repeat' (first | exact Ext.refl _ | assumption | apply Ext.alloc | apply Ext.drew | refine Ext.set ?_ (by dsimp only; omega) _ | refine Ext.trans ?_ (by assumption)))) hb2) hx
                by_cases hid : x.version ≤ m2
                · go_wp2_with fail
                  go_ret
                  refine ⟨ret_i ?_, by (repeat' (first | exact Ext.refl _ | assumption | apply Ext.alloc | apply Ext.drew | refine Ext.set ?_ (by dsimp only; omega) _ | refine Ext.trans ?_ (by assumption)))⟩
                  have hi := HJ.out; rw [HD.out] at hi; have h4 := hln2.out; have h5 := HHS.out; have h6 := Hi2.out; have h7 := hln3.out
                  rw [catsErr, if_pos hid] at hi
                  simp only [stnsErr] at h6
                  rw [h5, ← h6, ← hi, if_neg (by simp), if_neg (by omega), if_neg (by decide), if_neg (by omega)]
                · have hid' : m2 < x.version := by omega
                  by_cases ha : x.lo < -500000 ∨ x.hi < x.lo ∨ 500000 < x.hi
                  · have hi := HJ.out; rw [HD.out] at hi; rw [catsErr, if_neg hid, if_pos ha] at hi
                    have Hi := Lib.hid hi; clear hi
                    rcases ha with ha | ha | ha
                    all_goals go_wp2_with fail
                    all_goals go_ret
                    all_goals refine ⟨ret_i ?_, by (repeat' (first | exact Ext.refl _ | assumption | apply Ext.alloc | apply Ext.drew | refine Ext.set ?_ (by dsimp only; omega) _ | refine Ext.trans ?_ (by assumption)))⟩
                    all_goals have h4 := hln2.out; have h5 := HHS.out; have h6 := Hi2.out; have h7 := hln3.out; have hi := Hi.out
                    all_goals simp only [stnsErr] at h6
                    all_goals rw [h5, ← h6, ← hi, if_neg (by simp), if_neg (by omega), if_neg (by decide), if_neg (by omega)]
                  · have hi := HJ.out; rw [HD.out] at hi; rw [catsErr, if_neg hid, if_neg ha] at hi
                    have Hi := Lib.hid hi; clear hi
                    have ha1 : -500000 ≤ x.lo := by omega
                    have ha2 : x.lo ≤ x.hi := by omega
                    have ha3 : x.hi ≤ 500000 := by omega
                    clear ha
                    go_wp2_with fail
                    go_roundw
                    case rel => exact ⟨j + 1, x.version, by omega, by go_num, rfl, Hi, by (repeat' (first | exact Ext.refl _ | assumption | apply Ext.alloc | apply Ext.drew | refine Ext.set ?_ (by dsimp only; omega) _ | refine Ext.trans ?_ (by assumption)))⟩
                    case measure => simp [intOf]; omega
              · have : j = n3 := by omega
                subst this
                go_wp2_with fail
                go_ret
                refine ⟨ret_i ?_, by (repeat' (first | exact Ext.refl _ | assumption | apply Ext.alloc | apply Ext.drew | refine Ext.set ?_ (by dsimp only; omega) _ | refine Ext.trans ?_ (by assumption)))⟩
                have hi := HJ.out; have h4 := hln2.out; have h5 := HHS.out; have h6 := Hi2.out; have h7 := hln3.out
                rw [h7, List.drop_length] at hi
                simp only [stnsErr, catsErr] at h6 hi
                rw [h5, ← h6, ← hi, if_neg (by simp), if_neg (by omega), if_neg (by decide), if_neg (by omega)]
          · have h8' : 8 < n3 := by omega
            go_wp2_with fail
            go_ret
            refine ⟨ret_i ?_, by (repeat' (first | exact Ext.refl _ | assumption | apply Ext.alloc | apply Ext.drew | refine Ext.set ?_ (by dsimp only; omega) _ | refine Ext.trans ?_ (by assumption)))⟩
            have h4 := hln2.out; have h5 := HHS.out; have h6 := Hi2.out; have h7 := hln3.out
            simp only [stnsErr] at h6
            rw [h5, ← h6, if_neg (by simp), if_neg (by omega), if_neg (by decide), if_pos (by omega)]
    · have h16' : 16 < n2 := by omega
      go_enter Tryz.func112, Tryz.ntmps112
      go_wp2_with fail
      refine (refWorld_c _ _ _ _ s.world.bodies _ (Bodies.ext (Ext.alloc0 _ _) hl1)).mono ?_
      rw [HHM.out]
      rintro e w1 ⟨rfl, h1⟩; obtain ⟨hc_w1, hf_w1, hz_w1⟩ := bcell h1; (repeat (first | rw [World.size_alloc] at hz_w1 | rw [World.size_drew] at hz_w1 | rw [World.size_setCell] at hz_w1)); have : w.heap.size < w1.heap.size := (by omega)
      go_wp2_with fail
      go_ret
      refine ⟨ret_i ?_, by (repeat' (first | exact Ext.refl _ | assumption | apply Ext.alloc | apply Ext.drew | refine Ext.set ?_ (by dsimp only; omega) _ | refine Ext.trans ?_ (by assumption)))⟩
      have h4 := hln2.out; have h5 := HHS.out
      rw [h5, if_neg (by simp), if_pos (by omega)]
  · have hM' : (M != 0) = true := by simpa using hM
    go_enter Tryz.func112, Tryz.ntmps112
    go_wp2_with fail
    refine (refWorld_c _ _ _ _ s.world.bodies _ (Bodies.ext (Ext.alloc0 _ _) hl1)).mono ?_
    rw [HHM.out]
    rintro e w1 ⟨rfl, h1⟩; obtain ⟨hc_w1, hf_w1, hz_w1⟩ := bcell h1; (repeat (first | rw [World.size_alloc] at hz_w1 | rw [World.size_drew] at hz_w1 | rw [World.size_setCell] at hz_w1)); have : w.heap.size < w1.heap.size := (by omega)
    go_wp2_with fail
    go_ret
    refine ⟨ret_i ?_, by (repeat' (first | exact Ext.refl _ | assumption | apply Ext.alloc | apply Ext.drew | refine Ext.set ?_ (by dsimp only; omega) _ | refine Ext.trans ?_ (by assumption)))⟩
    have h5 := HHS.out
    rw [h5, if_pos hM]

end Go.Proofs.YtfniicgoeljmdaaGreat

namespace Go.Proofs.YtfniicgoeljmdaaGreat
open Go.RowKit

theorem idx_cases {α : Type} (p : α → Bool) (l : List α) : (idxFrom p l 0 = -1 ∧ l.find? p = none) ∨ ∃ (i : Nat) (x : α), i < l.length ∧ idxFrom p l 0 = i ∧ l[i]? = some x ∧ l.find? p = some x := by
  have h : ∀ (l : List α) (k : Nat), (idxFrom p l k = -1 ∧ l.find? p = none) ∨ ∃ (i : Nat) (x : α), i < l.length ∧ idxFrom p l k = ((k + i : Nat) : Int) ∧ l[i]? = some x ∧ l.find? p = some x := by
    intro l
    induction l with
    | nil => intro k; exact .inl ⟨rfl, rfl⟩
    | cons y r ih =>
      intro k
      cases hp : p y
      · rcases ih (k + 1) with ⟨h1, h2⟩ | ⟨i, x, h1, h2, h3, h4⟩
        · exact .inl ⟨by simp [idxFrom, hp, h1], by simp [hp, h2]⟩
        · exact .inr ⟨i + 1, x, by simp; omega, by simp only [idxFrom, hp]; simp [h2]; omega, by simpa using h3, by simp [hp, h4]⟩
      · exact .inr ⟨0, y, by simp, by simp [idxFrom, hp], rfl, by simp [hp]⟩
  rcases h l 0 with h | ⟨i, x, h1, h2, h3, h4⟩
  · exact .inl h
  · exact .inr ⟨i, x, h1, by simpa using h2, h3, h4⟩

theorem SlR.get {α : Type} {sz : Nat} {R : α → Nat → Nat → Prop} {A : Option Addr} {n : Nat} {l : List α} (h : SlR sz R A n l) {i : Nat} {x : α} (hx : l[i]? = some x) :
    i < n ∧ ∃ b off, A = some ⟨b, off, none⟩ ∧ R x b (off + i * sz) := by
  obtain ⟨hi, rfl⟩ := List.getElem?_eq_some_iff.1 hx
  obtain ⟨b, off, hA, hc⟩ := h.at_ (by omega)
  exact ⟨by rw [h.len]; exact hi, b, off, hA, hc i hi⟩


set_option maxHeartbeats 400000 in
theorem idxStn_c (A : Option Addr) (n c : Nat) (l : List Stn) (fid : Nat) (cap : Array Value) (p : Stn → Bool) (w : World) (hl : Stns w A n l)
    (hcall : ∀ (xs : Array Value) (W : World), (callFunc fid xs).run Tryz.prog W = .ok (.enter fid xs) W)
    (hf : ∀ x ∈ l, ∀ W, Ext w W → Calls Tryz.prog fid (#[.agg #[.int .i64 x.id, .int .i64 x.off.x, .int .i64 x.off.y]] ++ cap) W fun e w' => e = .returned (.bool (p x)) ∧ Ext W w') :
    Calls Tryz.prog 189 #[.slice A n c, .func (.func fid) #[] cap] w fun e w' => e = .returned (.int .i64 (idxFrom p l 0)) ∧ Ext w w' := by
  have hn := hl.le
  have Hf := Lib.hid hf
  clear hf
  go_enter Tryz.func189, Tryz.ntmps189
  go_wp2_with fail
  go_loopw [8] (fun i wr => ∃ k : Nat, k ≤ n ∧ i = .int .i64 k ∧ Hid (idxFrom p (l.drop k) k = idxFrom p l 0) ∧ Ext w wr) (fun i _ => n - (intOf i).toNat)
  case atStart => exact ⟨0, Nat.zero_le _, rfl, rfl, Ext.refl _⟩
  case round =>
    obtain ⟨k, hk, rfl, HI, hb⟩ := hrel
    by_cases hlt : k < n
    · obtain ⟨b, off, x, rfl, HD, hxm, hx⟩ := hl.one hlt
      obtain ⟨hx0, hx1, hx2⟩ := stnAt.ext hb hx
      go_wp2_with fail
      refine (Hf.out x hxm _ hb).mono ?_
      rintro e w1 ⟨rfl, h1⟩
      cases hp : p x
      · go_wp2_with fail
        go_roundw
        case rel => exact ⟨k + 1, by omega, by go_num, by have := HI.out; rw [HD.out] at this; simpa [Hid, idxFrom, hp] using this, hb.trans h1⟩
        case measure => simp [intOf]; omega
      · go_wp2_with fail
        go_ret
        exact ⟨ret_i (by have := HI.out; rw [HD.out] at this; simpa [idxFrom, hp] using this), hb.trans h1⟩
    · have : k = l.length := by have := hl.len; omega
      subst this
      go_wp2_with fail
      go_ret
      refine ⟨ret_i ?_, hb⟩
      have := HI.out
      simpa [idxFrom] using this


set_option maxHeartbeats 400000 in
theorem idxCat_c (A : Option Addr) (n c : Nat) (l : List Cat) (fid : Nat) (cap : Array Value) (p : Cat → Bool) (w : World) (hl : Cats w A n l)
    (hcall : ∀ (xs : Array Value) (W : World), (callFunc fid xs).run Tryz.prog W = .ok (.enter fid xs) W)
    (hf : ∀ x ∈ l, ∀ W, Ext w W → Calls Tryz.prog fid (#[.agg #[.int .i64 x.version, .int .i64 x.lo, .int .i64 x.hi]] ++ cap) W fun e w' => e = .returned (.bool (p x)) ∧ Ext W w') :
    Calls Tryz.prog 191 #[.slice A n c, .func (.func fid) #[] cap] w fun e w' => e = .returned (.int .i64 (idxFrom p l 0)) ∧ Ext w w' := by
  have hn := hl.le
  have Hf := Lib.hid hf
  clear hf
  go_enter Tryz.func191, Tryz.ntmps191
  go_wp2_with fail
  go_loopw [8] (fun i wr => ∃ k : Nat, k ≤ n ∧ i = .int .i64 k ∧ Hid (idxFrom p (l.drop k) k = idxFrom p l 0) ∧ Ext w wr) (fun i _ => n - (intOf i).toNat)
  case atStart => exact ⟨0, Nat.zero_le _, rfl, rfl, Ext.refl _⟩
  case round =>
    obtain ⟨k, hk, rfl, HI, hb⟩ := hrel
    by_cases hlt : k < n
    · obtain ⟨b, off, x, rfl, HD, hxm, hx⟩ := hl.one hlt
      obtain ⟨hx0, hx1, hx2⟩ := catAt.ext hb hx
      go_wp2_with fail
      refine (Hf.out x hxm _ hb).mono ?_
      rintro e w1 ⟨rfl, h1⟩
      cases hp : p x
      · go_wp2_with fail
        go_roundw
        case rel => exact ⟨k + 1, by omega, by go_num, by have := HI.out; rw [HD.out] at this; simpa [Hid, idxFrom, hp] using this, hb.trans h1⟩
        case measure => simp [intOf]; omega
      · go_wp2_with fail
        go_ret
        exact ⟨ret_i (by have := HI.out; rw [HD.out] at this; simpa [idxFrom, hp] using this), hb.trans h1⟩
    · have : k = l.length := by have := hl.len; omega
      subst this
      go_wp2_with fail
      go_ret
      refine ⟨ret_i ?_, hb⟩
      have := HI.out
      simpa [idxFrom] using this


set_option maxHeartbeats 400000 in
theorem station1_c (a x y id : Int) (b : Nat) (w : World) (hb : w.cell? ⟨b, 0, none⟩ = some (.int .i64 id)) :
    Calls Tryz.prog 190 #[.agg #[.int .i64 a, .int .i64 x, .int .i64 y], .pointer (some ⟨b, 0, none⟩)] w fun e w' => e = .returned (.bool (a == id)) ∧ Ext w w' := by
  have hlt := World.block_lt_of_cell? w _ hb
  go_enter Tryz.func190, Tryz.ntmps190
  go_wp2_with fail
  go_ret
  exact ⟨ret_b (by simp), Ext.alloc0 _ _⟩
set_option maxHeartbeats 400000 in
theorem catalog1_c (a x y id : Int) (b : Nat) (w : World) (hb : w.cell? ⟨b, 0, none⟩ = some (.int .i64 id)) :
    Calls Tryz.prog 192 #[.agg #[.int .i64 a, .int .i64 x, .int .i64 y], .pointer (some ⟨b, 0, none⟩)] w fun e w' => e = .returned (.bool (a == id)) ∧ Ext w w' := by
  have hlt := World.block_lt_of_cell? w _ hb
  go_enter Tryz.func192, Tryz.ntmps192
  go_wp2_with fail
  go_ret
  exact ⟨ret_b (by simp), Ext.alloc0 _ _⟩

def stnOf (l : List Stn) (id : Int) : Option Stn := l.find? fun x => x.id == id
def catOf (l : List Cat) (v : Int) : Option Cat := l.find? fun x => x.version == v

set_option maxHeartbeats 400000 in
theorem station_c (A1 : Option Addr) (n1 c1 : Nat) (home : Int) (A2 : Option Addr) (n2 c2 : Nat) (A3 : Option Addr) (n3 c3 : Nat) (id : Int) (l : List Stn) (w : World) (hl : Stns w A2 n2 l) :
    Calls Tryz.prog 153 #[.agg #[.slice A1 n1 c1, .int .i64 home, .slice A2 n2 c2, .slice A3 n3 c3], .int .i64 id] w fun e w' =>
      e = .returned (.tuple #[.agg #[.int .i64 ((stnOf l id).getD ⟨0, ⟨0, 0⟩⟩).id, .int .i64 ((stnOf l id).getD ⟨0, ⟨0, 0⟩⟩).off.x, .int .i64 ((stnOf l id).getD ⟨0, ⟨0, 0⟩⟩).off.y], .bool (stnOf l id).isSome]) ∧ Ext w w' := by
  have hn := hl.le
  rcases idx_cases (fun x : Stn => x.id == id) l with ⟨hi, hf⟩ | ⟨i, x, hi1, hi, hx, hf⟩
  · have Hi := Lib.hid hi; clear hi
    have Hf := Lib.hid hf; clear hf
    go_enter Tryz.func153, Tryz.ntmps153
    go_wp2_with fail
    refine (idxStn_c A2 n2 c2 l 190 #[.pointer (some ⟨w.heap.size + 1, 0, none⟩)] (fun x => x.id == id) _ (Stns.ext (by (repeat' (first | exact Ext.refl _ | assumption | apply Ext.alloc | apply Ext.drew | refine Ext.set ?_ (by dsimp only; omega) _ | refine Ext.trans ?_ (by assumption)))) hl) Tryz.call190 (fun x _ W hW => station1_c x.id x.off.x x.off.y id _ W (hW.cell (by go_simp)))).mono ?_
    rw [Hi.out]
    rintro e w1 ⟨rfl, h1⟩; obtain ⟨hc_w1, hf_w1, hz_w1⟩ := bcell h1; (repeat (first | rw [World.size_alloc] at hz_w1 | rw [World.size_drew] at hz_w1 | rw [World.size_setCell] at hz_w1)); have : w.heap.size < w1.heap.size := (by omega); have : w.heap.size + 1 < w1.heap.size := (by omega); have : w.heap.size + 2 < w1.heap.size := (by omega)
    go_wp2_with fail
    (try simp only [Exit.inBlock, Exit.then]); apply bodyPost_ret; (focus (simp only [results, Tryz.results153]; go_simp; try rfl)); rfl
    have h1 : stnOf l id = none := Hf.out
    rw [h1]
    exact ⟨rfl, by (repeat' (first | exact Ext.refl _ | assumption | apply Ext.alloc | apply Ext.drew | refine Ext.set ?_ (by dsimp only; omega) _ | refine Ext.trans ?_ (by assumption)))⟩
  · obtain ⟨hin, b, off, rfl, hc⟩ := hl.get hx
    have Hi := Lib.hid hi; clear hi
    have Hf := Lib.hid hf; clear hf
    have Hx := Lib.hid hx; clear hx
    go_enter Tryz.func153, Tryz.ntmps153
    go_wp2_with fail
    refine (idxStn_c _ n2 c2 l 190 #[.pointer (some ⟨w.heap.size + 1, 0, none⟩)] (fun x => x.id == id) _ (Stns.ext (by (repeat' (first | exact Ext.refl _ | assumption | apply Ext.alloc | apply Ext.drew | refine Ext.set ?_ (by dsimp only; omega) _ | refine Ext.trans ?_ (by assumption)))) hl) Tryz.call190 (fun x _ W hW => station1_c x.id x.off.x x.off.y id _ W (hW.cell (by go_simp)))).mono ?_
    rw [Hi.out]
    rintro e w1 ⟨rfl, h1⟩; obtain ⟨hc_w1, hf_w1, hz_w1⟩ := bcell h1; (repeat (first | rw [World.size_alloc] at hz_w1 | rw [World.size_drew] at hz_w1 | rw [World.size_setCell] at hz_w1)); have : w.heap.size < w1.heap.size := (by omega); have : w.heap.size + 1 < w1.heap.size := (by omega); have : w.heap.size + 2 < w1.heap.size := (by omega)
    obtain ⟨hx0, hx1, hx2⟩ := stnAt.ext (Ext.trans (by (repeat' (first | exact Ext.refl _ | assumption | apply Ext.alloc | apply Ext.drew | refine Ext.set ?_ (by dsimp only; omega) _ | refine Ext.trans ?_ (by assumption)))) h1) hc
    go_wp2_with fail
    (try simp only [Exit.inBlock, Exit.then]); apply bodyPost_ret; (focus (simp only [results, Tryz.results153]; go_simp; try rfl)); rfl
    have h1 : stnOf l id = some x := Hf.out
    rw [h1]
    exact ⟨rfl, by (repeat' (first | exact Ext.refl _ | assumption | apply Ext.alloc | apply Ext.drew | refine Ext.set ?_ (by dsimp only; omega) _ | refine Ext.trans ?_ (by assumption)))⟩

set_option maxHeartbeats 400000 in
theorem catalog_c (A1 : Option Addr) (n1 c1 : Nat) (home : Int) (A2 : Option Addr) (n2 c2 : Nat) (A3 : Option Addr) (n3 c3 : Nat) (id : Int) (l : List Cat) (w : World) (hl : Cats w A3 n3 l) :
    Calls Tryz.prog 154 #[.agg #[.slice A1 n1 c1, .int .i64 home, .slice A2 n2 c2, .slice A3 n3 c3], .int .i64 id] w fun e w' =>
      e = .returned (.tuple #[.agg #[.int .i64 ((catOf l id).getD ⟨0, 0, 0⟩).version, .int .i64 ((catOf l id).getD ⟨0, 0, 0⟩).lo, .int .i64 ((catOf l id).getD ⟨0, 0, 0⟩).hi], .bool (catOf l id).isSome]) ∧ Ext w w' := by
  have hn := hl.le
  rcases idx_cases (fun x : Cat => x.version == id) l with ⟨hi, hf⟩ | ⟨i, x, hi1, hi, hx, hf⟩
  · have Hi := Lib.hid hi; clear hi
    have Hf := Lib.hid hf; clear hf
    go_enter Tryz.func154, Tryz.ntmps154
    go_wp2_with fail
    refine (idxCat_c A3 n3 c3 l 192 #[.pointer (some ⟨w.heap.size + 1, 0, none⟩)] (fun x => x.version == id) _ (Cats.ext (by (repeat' (first | exact Ext.refl _ | assumption | apply Ext.alloc | apply Ext.drew | refine Ext.set ?_ (by dsimp only; omega) _ | refine Ext.trans ?_ (by assumption)))) hl) Tryz.call192 (fun x _ W hW => catalog1_c x.version x.lo x.hi id _ W (hW.cell (by go_simp)))).mono ?_
    rw [Hi.out]
    rintro e w1 ⟨rfl, h1⟩; obtain ⟨hc_w1, hf_w1, hz_w1⟩ := bcell h1; (repeat (first | rw [World.size_alloc] at hz_w1 | rw [World.size_drew] at hz_w1 | rw [World.size_setCell] at hz_w1)); have : w.heap.size < w1.heap.size := (by omega); have : w.heap.size + 1 < w1.heap.size := (by omega); have : w.heap.size + 2 < w1.heap.size := (by omega)
    go_wp2_with fail
    (try simp only [Exit.inBlock, Exit.then]); apply bodyPost_ret; (focus (simp only [results, Tryz.results154]; go_simp; try rfl)); rfl
    have h1 : catOf l id = none := Hf.out
    rw [h1]
    exact ⟨rfl, by (repeat' (first | exact Ext.refl _ | assumption | apply Ext.alloc | apply Ext.drew | refine Ext.set ?_ (by dsimp only; omega) _ | refine Ext.trans ?_ (by assumption)))⟩
  · obtain ⟨hin, b, off, rfl, hc⟩ := hl.get hx
    have Hi := Lib.hid hi; clear hi
    have Hf := Lib.hid hf; clear hf
    have Hx := Lib.hid hx; clear hx
    go_enter Tryz.func154, Tryz.ntmps154
    go_wp2_with fail
    refine (idxCat_c _ n3 c3 l 192 #[.pointer (some ⟨w.heap.size + 1, 0, none⟩)] (fun x => x.version == id) _ (Cats.ext (by (repeat' (first | exact Ext.refl _ | assumption | apply Ext.alloc | apply Ext.drew | refine Ext.set ?_ (by dsimp only; omega) _ | refine Ext.trans ?_ (by assumption)))) hl) Tryz.call192 (fun x _ W hW => catalog1_c x.version x.lo x.hi id _ W (hW.cell (by go_simp)))).mono ?_
    rw [Hi.out]
    rintro e w1 ⟨rfl, h1⟩; obtain ⟨hc_w1, hf_w1, hz_w1⟩ := bcell h1; (repeat (first | rw [World.size_alloc] at hz_w1 | rw [World.size_drew] at hz_w1 | rw [World.size_setCell] at hz_w1)); have : w.heap.size < w1.heap.size := (by omega); have : w.heap.size + 1 < w1.heap.size := (by omega); have : w.heap.size + 2 < w1.heap.size := (by omega)
    obtain ⟨hx0, hx1, hx2⟩ := catAt.ext (Ext.trans (by (repeat' (first | exact Ext.refl _ | assumption | apply Ext.alloc | apply Ext.drew | refine Ext.set ?_ (by dsimp only; omega) _ | refine Ext.trans ?_ (by assumption)))) h1) hc
    go_wp2_with fail
    (try simp only [Exit.inBlock, Exit.then]); apply bodyPost_ret; (focus (simp only [results, Tryz.results154]; go_simp; try rfl)); rfl
    have h1 : catOf l id = some x := Hf.out
    rw [h1]
    exact ⟨rfl, by (repeat' (first | exact Ext.refl _ | assumption | apply Ext.alloc | apply Ext.drew | refine Ext.set ?_ (by dsimp only; omega) _ | refine Ext.trans ?_ (by assumption)))⟩

set_option maxHeartbeats 400000 in
theorem refStation_c (A1 : Option Addr) (n1 c1 : Nat) (home : Int) (A2 : Option Addr) (n2 c2 : Nat) (A3 : Option Addr) (n3 c3 : Nat) (id : Int) (l : List Stn) (w : World) (hl : Stns w A2 n2 l) :
    Calls Tryz.prog 150 #[.agg #[.slice A1 n1 c1, .int .i64 home, .slice A2 n2 c2, .slice A3 n3 c3], .int .i64 id] w fun e w' =>
      e = .returned (.int .i64 (idxFrom (fun x : Stn => x.id == id) l 0)) ∧ Ext w w' := by
  have hn := hl.le
  go_enter Tryz.func150, Tryz.ntmps150
  go_wp2_with fail
  go_loopw [5] (fun i wr => ∃ k : Nat, k ≤ n2 ∧ i = .int .i64 k ∧ Hid (idxFrom (fun x : Stn => x.id == id) (l.drop k) k = idxFrom (fun x : Stn => x.id == id) l 0) ∧ Ext (w.alloc (.cells #[.slice A1 n1 c1, .int .i64 home, .slice A2 n2 c2, .slice A3 n3 c3] 53)) wr) (fun i _ => n2 - (intOf i).toNat)
  case atStart => exact ⟨0, Nat.zero_le _, rfl, rfl, Ext.refl _⟩
  case round =>
    obtain ⟨k, hk, rfl, HI, hb⟩ := hrel
    obtain ⟨hcb, hfb, hzb⟩ := bcell hb
    by_cases hlt : k < n2
    · obtain ⟨b, off, x, rfl, HD, hxm, hx⟩ := hl.one hlt
      obtain ⟨hx0, hx1, hx2⟩ := stnAt.ext (Ext.trans (Ext.alloc0 _ _) hb) hx
      have hi := HI.out; rw [HD.out] at hi
      cases hp : (x.id == id)
      · have hi' : idxFrom (fun x : Stn => x.id == id) (l.drop (k + 1)) (k + 1) = idxFrom (fun x : Stn => x.id == id) l 0 := by rw [← hi]; simp only [idxFrom, hp]; simp
        have Hi := Lib.hid hi'; clear hi hi'
        go_wp2_with fail
        go_roundw
        case rel => exact ⟨k + 1, by omega, by go_num, Hi, by (repeat' (first | exact Ext.refl _ | assumption | apply Ext.alloc | apply Ext.drew | refine Ext.set ?_ (by dsimp only; omega) _ | refine Ext.trans ?_ (by assumption)))⟩
        case measure => simp [intOf]; omega
      · have hi' : (k : Int) = idxFrom (fun x : Stn => x.id == id) l 0 := by rw [← hi]; simp only [idxFrom, hp]; simp
        have Hi := Lib.hid hi'; clear hi hi'
        go_wp2_with fail
        go_ret
        exact ⟨ret_i Hi.out, by (repeat' (first | exact Ext.refl _ | assumption | apply Ext.alloc | apply Ext.drew | refine Ext.set ?_ (by dsimp only; omega) _ | refine Ext.trans ?_ (by assumption)))⟩
    · have : k = n2 := by omega
      subst this
      have hi := HI.out; rw [hl.len, List.drop_length] at hi
      have Hi := Lib.hid hi; clear hi
      go_wp2_with fail
      go_ret
      exact ⟨ret_i Hi.out, by (repeat' (first | exact Ext.refl _ | assumption | apply Ext.alloc | apply Ext.drew | refine Ext.set ?_ (by dsimp only; omega) _ | refine Ext.trans ?_ (by assumption)))⟩

set_option maxHeartbeats 400000 in
theorem refCatalog_c (A1 : Option Addr) (n1 c1 : Nat) (home : Int) (A2 : Option Addr) (n2 c2 : Nat) (A3 : Option Addr) (n3 c3 : Nat) (id : Int) (l : List Cat) (w : World) (hl : Cats w A3 n3 l) :
    Calls Tryz.prog 219 #[.agg #[.slice A1 n1 c1, .int .i64 home, .slice A2 n2 c2, .slice A3 n3 c3], .int .i64 id] w fun e w' =>
      e = .returned (.int .i64 (idxFrom (fun x : Cat => x.version == id) l 0)) ∧ Ext w w' := by
  have hn := hl.le
  go_enter Tryz.func219, Tryz.ntmps219
  go_wp2_with fail
  go_loopw [5] (fun i wr => ∃ k : Nat, k ≤ n3 ∧ i = .int .i64 k ∧ Hid (idxFrom (fun x : Cat => x.version == id) (l.drop k) k = idxFrom (fun x : Cat => x.version == id) l 0) ∧ Ext (w.alloc (.cells #[.slice A1 n1 c1, .int .i64 home, .slice A2 n2 c2, .slice A3 n3 c3] 53)) wr) (fun i _ => n3 - (intOf i).toNat)
  case atStart => exact ⟨0, Nat.zero_le _, rfl, rfl, Ext.refl _⟩
  case round =>
    obtain ⟨k, hk, rfl, HI, hb⟩ := hrel
    obtain ⟨hcb, hfb, hzb⟩ := bcell hb
    by_cases hlt : k < n3
    · obtain ⟨b, off, x, rfl, HD, hxm, hx⟩ := hl.one hlt
      obtain ⟨hx0, hx1, hx2⟩ := catAt.ext (Ext.trans (Ext.alloc0 _ _) hb) hx
      have hi := HI.out; rw [HD.out] at hi
      cases hp : (x.version == id)
      · have hi' : idxFrom (fun x : Cat => x.version == id) (l.drop (k + 1)) (k + 1) = idxFrom (fun x : Cat => x.version == id) l 0 := by rw [← hi]; simp only [idxFrom, hp]; simp
        have Hi := Lib.hid hi'; clear hi hi'
        go_wp2_with fail
        go_roundw
        case rel => exact ⟨k + 1, by omega, by go_num, Hi, by (repeat' (first | exact Ext.refl _ | assumption | apply Ext.alloc | apply Ext.drew | refine Ext.set ?_ (by dsimp only; omega) _ | refine Ext.trans ?_ (by assumption)))⟩
        case measure => simp [intOf]; omega
      · have hi' : (k : Int) = idxFrom (fun x : Cat => x.version == id) l 0 := by rw [← hi]; simp only [idxFrom, hp]; simp
        have Hi := Lib.hid hi'; clear hi hi'
        go_wp2_with fail
        go_ret
        exact ⟨ret_i Hi.out, by (repeat' (first | exact Ext.refl _ | assumption | apply Ext.alloc | apply Ext.drew | refine Ext.set ?_ (by dsimp only; omega) _ | refine Ext.trans ?_ (by assumption)))⟩
    · have : k = n3 := by omega
      subst this
      have hi := HI.out; rw [hl.len, List.drop_length] at hi
      have Hi := Lib.hid hi; clear hi
      go_wp2_with fail
      go_ret
      exact ⟨ret_i Hi.out, by (repeat' (first | exact Ext.refl _ | assumption | apply Ext.alloc | apply Ext.drew | refine Ext.set ?_ (by dsimp only; omega) _ | refine Ext.trans ?_ (by assumption)))⟩

end Go.Proofs.YtfniicgoeljmdaaGreat
