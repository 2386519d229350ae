/- What the checks of guesses compute, of the program and of the reference. No condition. -/
import Derived.Test.YtmgjjgmadiabfaaOwn
namespace Go.Proofs.Ytmgjjgmadiabfaa
open Go.RowKit


set_option maxHeartbeats 400000 in
theorem idxSt_c (A : Option Addr) (n c : Nat) (l : List St) (fid : Nat) (cap : Array Value) (p : St → Bool) (w : World) (hl : Sts w A n l)
    (hcall : ∀ (xs : Array Value) (W : World), (callFunc fid xs).run Try.prog W = .ok (.enter fid xs) W)
    (hf : ∀ x ∈ l, ∀ W, Ext w W → Calls Try.prog fid (#[.agg #[.int .i64 x.x, .int .i64 x.y, .int .i64 x.u, .int .i64 x.v]] ++ cap) W fun e w' => e = .returned (.bool (p x)) ∧ Ext W w') :
    Calls Try.prog 124 #[.slice A n c, .func (.func fid) #[] cap] w fun e w' => e = .returned (.int .i64 (idxFrom p l 0)) ∧ Ext w w' := by
  have hn := hl.le
  have Hf := Lib.hid hf
  clear hf
  go_enter Try.func124, Try.ntmps124
  go_wp2_with fail
  go_loopw [8] (fun i wr => ∃ k : Nat, k ≤ n ∧ i = .int .i64 k ∧ Hid (idxFrom p (l.drop k) k = idxFrom p l 0) ∧ Ext w wr) (fun i _ => n - (intOf i).toNat)
  case atStart => exact ⟨0, Nat.zero_le _, rfl, rfl, Ext.refl _⟩
  case round =>
    obtain ⟨k, hk, rfl, HI, hb⟩ := hrel
    by_cases hlt : k < n
    · obtain ⟨b, off, x, rfl, HD, hxm, hx⟩ := hl.one hlt
      obtain ⟨hx0, hx1, hx2, hx3⟩ := stAt.ext hb hx
      go_wp2_with fail
      refine (Hf.out x hxm _ hb).mono ?_
      rintro e w1 ⟨rfl, h1⟩
      cases hp : p x
      · go_wp2_with fail
        go_roundw
        case rel => exact ⟨k + 1, by omega, by go_num, by have := HI.out; rw [HD.out] at this; simpa [Hid, idxFrom, hp] using this, hb.trans h1⟩
        case measure => simp [intOf]; omega
      · go_wp2_with fail
        go_ret
        exact ⟨ret_i (by have := HI.out; rw [HD.out] at this; simpa [idxFrom, hp] using this), hb.trans h1⟩
    · have : k = l.length := by have := hl.len; omega
      subst this
      go_wp2_with fail
      go_ret
      refine ⟨ret_i ?_, hb⟩
      have := HI.out
      simpa [idxFrom] using this

set_option maxHeartbeats 400000 in
theorem hasSt_c (A : Option Addr) (n c : Nat) (l : List St) (fid : Nat) (cap : Array Value) (p : St → Bool) (w : World) (hl : Sts w A n l)
    (hcall : ∀ (xs : Array Value) (W : World), (callFunc fid xs).run Try.prog W = .ok (.enter fid xs) W)
    (hf : ∀ x ∈ l, ∀ W, Ext w W → Calls Try.prog fid (#[.agg #[.int .i64 x.x, .int .i64 x.y, .int .i64 x.u, .int .i64 x.v]] ++ cap) W fun e w' => e = .returned (.bool (p x)) ∧ Ext W w') :
    Calls Try.prog 119 #[.slice A n c, .func (.func fid) #[] cap] w fun e w' => e = .returned (.bool (hasP p l)) ∧ Ext w w' := by
  have Hf := Lib.hid hf
  clear hf
  go_enter Try.func119, Try.ntmps119
  go_wp2_with fail
  refine (idxSt_c A n c l fid cap p w hl hcall Hf.out).mono ?_
  rintro e w1 ⟨rfl, h1⟩
  go_wp2_with fail
  go_ret
  exact ⟨ret_b (by simp [hasP]), h1⟩


set_option maxHeartbeats 400000 in
theorem checkGuesses1_c (gx gy gu gv : Int) (w : World) :
    Calls Try.prog 120 #[.agg #[.int .i64 gx, .int .i64 gy, .int .i64 gu, .int .i64 gv]] w fun e w' => e = .returned (.bool (!gOK ⟨gx, gy, gu, gv⟩)) ∧ Ext w w' := by
  go_enter Try.func120, Try.ntmps120
  go_wp2_with fail
  refine (valid_c _ _ _ _ _).mono ?_
  rintro e w1 ⟨rfl, h1⟩; obtain ⟨hc_w1, hf_w1, hz_w1⟩ := bcell h1; (repeat (first | rw [World.size_alloc] at hz_w1 | rw [World.size_drew] at hz_w1 | rw [World.size_setCell] at hz_w1)); have : w.heap.size < w1.heap.size := (by omega)
  go_wp2_with fail
  go_ret
  exact ⟨ret_b (by simp), by (repeat' (first | exact Ext.refl _ | assumption | apply Ext.alloc | apply Ext.drew | refine Ext.set ?_ (by dsimp only; omega) _ | refine Ext.trans ?_ (by assumption)))⟩

/-- The error of guesses at a tick. -/
def askErr (l : List St) (t : Int) : Int := if 64 < l.length then 8 else if within t 0 1073741824 = false then 2 else if l.any (fun g => !gOK g) = true then 2 else 0

set_option maxHeartbeats 1000000 in
theorem checkGuesses_c (A : Option Addr) (n c : Nat) (l : List St) (t : Int) (w : World) (hl : Sts w A n l) :
    Calls Try.prog 96 #[.slice A n c, .int .i64 t] w fun e w' => e = .returned (.int .i64 (askErr l t)) ∧ Ext w w' := by
  have hn := hl.le
  have HM : Hid (askErr l t = if 64 < n then 8 else if within t 0 1073741824 = false then 2 else if l.any (fun g => !gOK g) = true then 2 else 0) := by rw [hl.len]; exact rfl
  have HF := Lib.hid fun W (hW : Ext w W) => hasSt_c A n c l 120 #[] (fun g => !gOK g) W (Sts.ext hW hl) Try.call120 (fun x _ W _ => checkGuesses1_c x.x x.y x.u x.v W)
  rw [hasP_eq] at HF
  generalize askErr l t = M at *
  clear hl
  by_cases h : n ≤ 64
  · cases ht : within t 0 1073741824
    · have Ht := Lib.hid ht
      clear ht
      go_enter Try.func96, Try.ntmps96
      go_wp2_with fail
      refine (within_c _ _ _ _).mono ?_
      rintro e w3 ⟨rfl, rfl⟩
      rw [Ht.out]
      go_wp2_with fail
      go_ret
      exact ⟨ret_i (by rw [HM.out, if_neg (by omega), if_pos Ht.out]), by (repeat' (first | exact Ext.refl _ | assumption | apply Ext.alloc | apply Ext.drew | refine Ext.set ?_ (by dsimp only; omega) _ | refine Ext.trans ?_ (by assumption)))⟩
    · have Ht := Lib.hid ht
      clear ht
      generalize l.any (fun g => !gOK g) = B at *
      go_enter Try.func96, Try.ntmps96
      go_wp2_with fail
      refine (within_c _ _ _ _).mono ?_
      rintro e w3 ⟨rfl, rfl⟩
      rw [Ht.out]
      go_wp2_with fail
      refine (HF.out _ (by (repeat' (first | exact Ext.refl _ | assumption | apply Ext.alloc | apply Ext.drew | refine Ext.set ?_ (by dsimp only; omega) _ | refine Ext.trans ?_ (by assumption))))).mono ?_
      rintro e w1 ⟨rfl, h1⟩; obtain ⟨hc_w1, hf_w1, hz_w1⟩ := bcell h1; (repeat (first | rw [World.size_alloc] at hz_w1 | rw [World.size_drew] at hz_w1 | rw [World.size_setCell] at hz_w1))
      cases B
      · go_wp2_with fail
        go_ret
        exact ⟨ret_i (by rw [HM.out, if_neg (by omega), if_neg (by rw [Ht.out]; simp)]; simp), by (repeat' (first | exact Ext.refl _ | assumption | apply Ext.alloc | apply Ext.drew | refine Ext.set ?_ (by dsimp only; omega) _ | refine Ext.trans ?_ (by assumption)))⟩
      · go_wp2_with fail
        go_ret
        exact ⟨ret_i (by rw [HM.out, if_neg (by omega), if_neg (by rw [Ht.out]; simp)]; simp), by (repeat' (first | exact Ext.refl _ | assumption | apply Ext.alloc | apply Ext.drew | refine Ext.set ?_ (by dsimp only; omega) _ | refine Ext.trans ?_ (by assumption)))⟩
  · have h' : 64 < n := by omega
    go_enter Try.func96, Try.ntmps96
    go_wp2_with fail
    go_ret
    exact ⟨ret_i (by rw [HM.out, if_pos h']), by (repeat' (first | exact Ext.refl _ | assumption | apply Ext.alloc | apply Ext.drew | refine Ext.set ?_ (by dsimp only; omega) _ | refine Ext.trans ?_ (by assumption)))⟩

set_option maxHeartbeats 1000000 in
theorem asked_c (A : Option Addr) (n c : Nat) (l : List St) (t : Int) (w : World) (hl : Sts w A n l) :
    Calls Try.prog 101 #[.slice A n c, .int .i64 t] w fun e w' => e = .returned (.int .i64 (askErr l t)) ∧ Ext w w' := by
  have hn := hl.le
  have hln := Lib.hid hl.len
  have HM : Hid (askErr l t = if 64 < n then 8 else if within t 0 1073741824 = false then 2 else if l.any (fun g => !gOK g) = true then 2 else 0) := by rw [hl.len]; exact rfl
  generalize askErr l t = M at *
  by_cases h : n ≤ 64
  · cases ht : within t 0 1073741824
    · have Ht := Lib.hid ht
      clear ht hl
      go_enter Try.func101, Try.ntmps101
      go_wp2_with fail
      refine (between_c _ _ _ _).mono ?_
      rintro e w3 ⟨rfl, rfl⟩
      rw [Ht.out]
      go_wp2_with fail
      go_ret
      exact ⟨ret_i (by rw [HM.out, if_neg (by omega), if_pos Ht.out]), by (repeat' (first | exact Ext.refl _ | assumption | apply Ext.alloc | apply Ext.drew | refine Ext.set ?_ (by dsimp only; omega) _ | refine Ext.trans ?_ (by assumption)))⟩
    · have Ht := Lib.hid ht
      clear ht
      go_enter Try.func101, Try.ntmps101
      go_wp2_with fail
      refine (between_c _ _ _ _).mono ?_
      rintro e w3 ⟨rfl, rfl⟩
      rw [Ht.out]
      go_wp2_with fail
      go_loopw [5] (fun i wr => ∃ k : Nat, k ≤ n ∧ i = .int .i64 k ∧ Hid ((l.drop k).any (fun g => !gOK g) = l.any (fun g => !gOK g)) ∧ Ext w wr) (fun i _ => n - (intOf i).toNat)
      case atStart => exact ⟨0, Nat.zero_le _, rfl, rfl, Ext.refl _⟩
      case round =>
        obtain ⟨k, hk, rfl, HI, hb⟩ := hrel
        obtain ⟨hcb, hfb, hzb⟩ := bcell hb
        by_cases hlt : k < n
        · obtain ⟨b, off, x, rfl, HD, hxm, hx⟩ := hl.one hlt
          obtain ⟨hx0, hx1, hx2, hx3⟩ := stAt.ext hb hx
          have hbl : b < wr.heap.size := World.block_lt_of_cell? wr _ hx0
          have HG := Lib.hid fun W => Guess_c x.x x.y x.u x.v W
          have hi := HI.out; rw [HD.out, List.any_cons] at hi
          generalize gOK ⟨x.x, x.y, x.u, x.v⟩ = B at *
          have Hi := Lib.hid hi; clear hi hx
          go_wp2_with fail
          refine (HG.out _).mono ?_
          rintro e w1 ⟨rfl, h1⟩; obtain ⟨hc_w1, hf_w1, hz_w1⟩ := bcell h1; (repeat (first | rw [World.size_alloc] at hz_w1 | rw [World.size_drew] at hz_w1 | rw [World.size_setCell] at hz_w1))
          cases B
          · go_wp2_with fail
            go_ret
            refine ⟨ret_i ?_, by (repeat' (first | exact Ext.refl _ | assumption | apply Ext.alloc | apply Ext.drew | refine Ext.set ?_ (by dsimp only; omega) _ | refine Ext.trans ?_ (by assumption)))⟩
            have hi := Hi.out; simp only [Bool.not_false, Bool.true_or] at hi
            rw [HM.out, if_neg (by omega), if_neg (by rw [Ht.out]; simp), ← hi]; simp
          · go_wp2_with fail
            go_roundw
            case rel => exact ⟨k + 1, by omega, by go_num, by have hi := Hi.out; simpa [Hid] using hi, by (repeat' (first | exact Ext.refl _ | assumption | apply Ext.alloc | apply Ext.drew | refine Ext.set ?_ (by dsimp only; omega) _ | refine Ext.trans ?_ (by assumption)))⟩
            case measure => simp [intOf]; omega
        · have : k = n := by omega
          subst this
          clear hl
          go_wp2_with fail
          go_ret
          refine ⟨ret_i ?_, by (repeat' (first | exact Ext.refl _ | assumption | apply Ext.alloc | apply Ext.drew | refine Ext.set ?_ (by dsimp only; omega) _ | refine Ext.trans ?_ (by assumption)))⟩
          have hi := HI.out; rw [hln.out, List.drop_length] at hi
          rw [HM.out, if_neg (by omega), if_neg (by rw [Ht.out]; simp), ← hi]; simp
  · have h' : 64 < n := by omega
    clear hl
    go_enter Try.func101, Try.ntmps101
    go_wp2_with fail
    go_ret
    exact ⟨ret_i (by rw [HM.out, if_pos h']), by (repeat' (first | exact Ext.refl _ | assumption | apply Ext.alloc | apply Ext.drew | refine Ext.set ?_ (by dsimp only; omega) _ | refine Ext.trans ?_ (by assumption)))⟩
end Go.Proofs.Ytmgjjgmadiabfaa
