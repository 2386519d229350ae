/- Which guess is believed: the program. No condition. -/
import Derived.Test.YtmgjjgmadiabfaaWrong
import Derived.Test.YtmgjjgmadiabfaaGen
import Derived.Laws.EntriesVeiled
namespace Go.Proofs.Ytmgjjgmadiabfaa
open Go.RowKit

/-- The number of the first element of which f is least. -/
def bestFrom {α : Type} (f : α → Int) : List α → Nat → Int → Int → Int
  | [], _, out, _ => out
  | x :: r, k, out, least => if out < 0 ∨ f x < least then bestFrom f r (k + 1) k (f x) else bestFrom f r (k + 1) out least

set_option maxHeartbeats 1000000 in
theorem best_c (A : Option Addr) (n c : Nat) (l : List St) (fid : Nat) (cap : Array Value) (f : St → Int) (w : World) (hl : Sts w A n l)
    (hcall : ∀ (xs : Array Value) (W : World), (callFunc fid xs).run Try.prog W = .ok (.enter fid xs) W)
    (hf : ∀ x ∈ l, ∀ W, Ext w W → Calls Try.prog fid (#[.agg #[.int .i64 x.x, .int .i64 x.y, .int .i64 x.u, .int .i64 x.v]] ++ cap) W fun e w' => e = .returned (.int .i64 (f x)) ∧ Ext W w') :
    Calls Try.prog 99 #[.slice A n c, .func (.func fid) #[] cap] w fun e w' => e = .returned (.int .i64 (bestFrom f l 0 (-1) 0)) ∧ Ext w w' := by
  have hn := hl.le
  have hln := Lib.hid hl.len
  have Hf := Lib.hid hf
  clear hf
  go_enter Try.func99, Try.ntmps99
  go_wp2_with fail
  go_loopw [5, 6, 12] (fun o m i wr => ∃ (k : Nat) (out least : Int), k ≤ n ∧ o = .int .i64 out ∧ m = .int .i64 least ∧ i = .int .i64 k ∧ Hid (bestFrom f (l.drop k) k out least = bestFrom f l 0 (-1) 0) ∧ Ext w wr) (fun _ _ i _ => n - (intOf i).toNat)
  case atStart => exact ⟨0, -1, 0, Nat.zero_le _, rfl, rfl, rfl, rfl, Ext.refl _⟩
  case round =>
    obtain ⟨k, out, least, hk, rfl, rfl, rfl, HI, hb⟩ := hrel
    obtain ⟨hcb, hfb, hzb⟩ := bcell hb
    by_cases hlt : k < n
    · obtain ⟨b, off, x, rfl, HD, hxm, hx⟩ := hl.one hlt
      obtain ⟨hx0, hx1, hx2, hx3⟩ := stAt.ext hb hx
      have hbl : b < wr.heap.size := World.block_lt_of_cell? wr _ hx0
      have hi := HI.out; rw [HD.out, bestFrom] at hi
      have hcx := Hf.out x hxm
      generalize f x = M at hi hcx
      have HFx := Lib.hid hcx
      clear hx hcx
      by_cases h0 : out < 0
      · rw [if_pos (.inl h0)] at hi
        have Hi := Lib.hid hi; clear hi
        go_wp2_with fail
        refine (HFx.out _ (by (repeat' (first | exact Ext.refl _ | assumption | apply Ext.alloc | apply Ext.drew | refine Ext.set ?_ (by dsimp only; omega) _ | refine Ext.trans ?_ (by assumption))))).mono ?_
        rintro e w1 ⟨rfl, h1⟩; obtain ⟨hc_w1, hf_w1, hz_w1⟩ := bcell h1; (repeat (first | rw [World.size_alloc] at hz_w1 | rw [World.size_drew] at hz_w1 | rw [World.size_setCell] at hz_w1))
        go_wp2_with fail
        go_roundw
        case rel => exact ⟨k + 1, k, M, by omega, rfl, rfl, by go_num, Hi, by (repeat' (first | exact Ext.refl _ | assumption | apply Ext.alloc | apply Ext.drew | refine Ext.set ?_ (by dsimp only; omega) _ | refine Ext.trans ?_ (by assumption)))⟩
        case measure => simp [intOf]; omega
      · by_cases h1 : M < least
        · rw [if_pos (.inr h1)] at hi
          have Hi := Lib.hid hi; clear hi
          go_wp2_with fail
          refine (HFx.out _ (by (repeat' (first | exact Ext.refl _ | assumption | apply Ext.alloc | apply Ext.drew | refine Ext.set ?_ (by dsimp only; omega) _ | refine Ext.trans ?_ (by assumption))))).mono ?_
          rintro e w2 ⟨rfl, h2⟩; obtain ⟨hc_w2, hf_w2, hz_w2⟩ := bcell h2; (repeat (first | rw [World.size_alloc] at hz_w2 | rw [World.size_drew] at hz_w2 | rw [World.size_setCell] at hz_w2))
          go_wp2_with fail
          go_roundw
          case rel => exact ⟨k + 1, k, M, by omega, rfl, rfl, by go_num, Hi, by (repeat' (first | exact Ext.refl _ | assumption | apply Ext.alloc | apply Ext.drew | refine Ext.set ?_ (by dsimp only; omega) _ | refine Ext.trans ?_ (by assumption)))⟩
          case measure => simp [intOf]; omega
        · rw [if_neg (by omega)] at hi
          have Hi := Lib.hid hi; clear hi
          go_wp2_with fail
          refine (HFx.out _ (by (repeat' (first | exact Ext.refl _ | assumption | apply Ext.alloc | apply Ext.drew | refine Ext.set ?_ (by dsimp only; omega) _ | refine Ext.trans ?_ (by assumption))))).mono ?_
          rintro e w2 ⟨rfl, h2⟩; obtain ⟨hc_w2, hf_w2, hz_w2⟩ := bcell h2; (repeat (first | rw [World.size_alloc] at hz_w2 | rw [World.size_drew] at hz_w2 | rw [World.size_setCell] at hz_w2))
          go_wp2_with fail
          go_roundw
          case rel => exact ⟨k + 1, out, least, by omega, rfl, rfl, by go_num, Hi, by (repeat' (first | exact Ext.refl _ | assumption | apply Ext.alloc | apply Ext.drew | refine Ext.set ?_ (by dsimp only; omega) _ | refine Ext.trans ?_ (by assumption)))⟩
          case measure => simp [intOf]; omega
    · have : k = n := by omega
      subst this
      have hi := HI.out; rw [hln.out, List.drop_length, bestFrom] at hi
      have Hi := Lib.hid hi
      clear hi hl
      go_wp2_with fail
      go_ret
      exact ⟨ret_i Hi.out, by (repeat' (first | exact Ext.refl _ | assumption | apply Ext.alloc | apply Ext.drew | refine Ext.set ?_ (by dsimp only; omega) _ | refine Ext.trans ?_ (by assumption)))⟩

set_option maxHeartbeats 1000000 in
theorem many_c (gx gy gu gv : Int) (b : Nat) (cap : Array Value) (L : List Int) (w : World) (hb : ∃ t, Blk w b t #[.func (.func 97) #[] cap])
    (hf : ∀ W, Ext w W → Calls Try.prog 97 (#[.agg #[.int .i64 gx, .int .i64 gy, .int .i64 gu, .int .i64 gv]] ++ cap) W fun e w' => ∃ A' c', e = .returned (.slice A' L.length c') ∧ Ints w' A' L.length L ∧ Ext W w') :
    Calls Try.prog 100 #[.agg #[.int .i64 gx, .int .i64 gy, .int .i64 gu, .int .i64 gv], .pointer (some ⟨b, 0, none⟩)] w fun e w' => e = .returned (.int .i64 L.length) ∧ Ext w w' := by
  obtain ⟨t, hb⟩ := hb
  have hc := hb.cell
  have hl := hb.lt
  have hcall := Try.call97
  have Hf := Lib.hid hf
  clear hf hb
  go_enter Try.func100, Try.ntmps100
  go_wp2_with fail
  refine (Hf.out _ (by (repeat' (first | exact Ext.refl _ | assumption | apply Ext.alloc | apply Ext.drew | refine Ext.set ?_ (by dsimp only; omega) _ | refine Ext.trans ?_ (by assumption))))).mono ?_
  rintro e w1 ⟨A', c', rfl, hL, h1⟩
  have hn := hL.le
  clear hL
  go_wp2_with fail
  go_ret
  exact ⟨rfl, by (repeat' (first | exact Ext.refl _ | assumption | apply Ext.alloc | apply Ext.drew | refine Ext.set ?_ (by dsimp only; omega) _ | refine Ext.trans ?_ (by assumption)))⟩


theorem bestFrom_at {α : Type} (f : α → Int) : ∀ (l : List α) (k : Nat) (out least : Int), 0 ≤ out → out < k → 0 ≤ bestFrom f l k out least ∧ bestFrom f l k out least < ((k + l.length : Nat) : Int)
  | [], k, out, _, h0, h1 => by simp only [bestFrom, List.length_nil]; omega
  | x :: r, k, out, least, h0, h1 => by
    rw [bestFrom]
    by_cases h : out < 0 ∨ f x < least
    · rw [if_pos h]
      have := bestFrom_at f r (k + 1) k (f x) (by omega) (by omega)
      simp only [List.length_cons]; omega
    · rw [if_neg h]
      have := bestFrom_at f r (k + 1) out least h0 (by omega)
      simp only [List.length_cons]; omega
theorem best_at {α : Type} (f : α → Int) {l : List α} (h : l ≠ []) : ∃ (i : Nat) (x : α), bestFrom f l 0 (-1) 0 = i ∧ l[i]? = some x := by
  cases l with
  | nil => exact absurd rfl h
  | cons y r =>
    have h1 := bestFrom_at f r 1 0 (f y) (by omega) (by omega)
    have h2 : bestFrom f (y :: r) 0 (-1) 0 = bestFrom f r 1 0 (f y) := by rw [bestFrom, if_pos (.inl (by omega))]; rfl
    rw [h2]
    have hlt : (bestFrom f r 1 0 (f y)).toNat < (y :: r).length := by simp only [List.length_cons]; omega
    exact ⟨_, (y :: r)[(bestFrom f r 1 0 (f y)).toNat], by omega, List.getElem?_eq_getElem hlt⟩

/-- Three results: a number, a list of numbers, an error. -/
def Ret3 (w : World) (n : Int) (L : List Int) (er : Int) (e : Ending) (w' : World) : Prop :=
  ∃ A c, e = .returned (.tuple #[.int .i64 n, .slice A L.length c, .int .i64 er]) ∧ Ints w' A L.length L ∧ Ext w w'
theorem Ret3.mk {w w' : World} {n er : Int} {e : Ending} (he : e = .returned (.tuple #[.int .i64 n, .slice none 0 0, .int .i64 er])) (hw : Ext w w') : Ret3 w n [] er e w' := ⟨none, 0, he, SlR.nil _ _ _, hw⟩

def lenW (s : Sky) (l : List Sight) (t0 : Int) (g : St) : Int := (wrongL s l g t0).length
def believeN (s : Sky) (l : List Sight) (gs : List St) (t0 : Int) : Int := if trkErr s l ≠ 0 ∨ askErr gs t0 ≠ 0 ∨ gs.length = 0 then 0 else bestFrom (lenW s l t0) gs 0 (-1) 0
def believeL (s : Sky) (l : List Sight) (gs : List St) (t0 : Int) : List Int :=
  if trkErr s l ≠ 0 ∨ askErr gs t0 ≠ 0 ∨ gs.length = 0 then [] else wrongL s l (gs.getD (bestFrom (lenW s l t0) gs 0 (-1) 0).toNat ⟨0, 0, 0, 0⟩) t0
def believeE (s : Sky) (l : List Sight) (gs : List St) (t0 : Int) : Int := if trkErr s l ≠ 0 then trkErr s l else if askErr gs t0 ≠ 0 then askErr gs t0 else if gs.length = 0 then 7 else 0

theorem ask_ok {l : List St} {t : Int} (h : askErr l t = 0) : l.length ≤ 64 ∧ within t 0 1073741824 = true ∧ ∀ g ∈ l, gOK g = true := by
  unfold askErr at h
  by_cases h1 : 64 < l.length
  · rw [if_pos h1] at h; cases h
  rw [if_neg h1] at h
  cases h2 : within t 0 1073741824
  · rw [h2] at h; simp at h
  rw [h2] at h
  simp only [Bool.true_eq_false, if_false] at h
  by_cases h3 : l.any (fun g => !gOK g) = true
  · rw [if_pos h3] at h; cases h
  · simp only [List.any_eq_true, Bool.not_eq_true', not_exists, not_and, Bool.not_eq_false] at h3
    exact ⟨by omega, rfl, h3⟩
theorem trk_len {s : Sky} {l : List Sight} (h : trkErr s l = 0) : l.length ≤ 64 := by
  unfold trkErr at h
  by_cases h0 : skyErr s = 0
  · rw [if_neg (by simp [h0])] at h
    by_cases h1 : l.length = 0
    · omega
    · rw [if_neg h1] at h
      by_cases h2 : 64 < l.length
      · rw [if_pos h2] at h; cases h
      · omega
  · rw [if_pos h0] at h; exact absurd h h0

set_option maxRecDepth 4000 in
set_option maxHeartbeats 2000000 in
theorem Believe_c (A1 : Option Addr) (n1 c1 : Nat) (home : Int) (A2 : Option Addr) (n2 c2 : Nat) (A3 : Option Addr) (n3 c3 : Nat) (s : Sky) (A : Option Addr) (n c : Nat) (l : List Sight) (B : Option Addr) (m d : Nat) (gs : List St) (t0 : Int) (w : World) (hs : IsSky w A1 n1 home A2 n2 A3 n3 s) (hl : Sights w A n l) (hg : Sts w B m gs) :
    Calls Try.prog 43 #[.agg #[.slice A1 n1 c1, .int .i64 home, .slice A2 n2 c2, .slice A3 n3 c3], .slice A n c, .slice B m d, .int .i64 t0] w (Ret3 w (believeN s l gs t0) (believeL s l gs t0) (believeE s l gs t0)) := by
  have HT := Lib.hid fun W (hW : Ext w W) => CheckTracklet_c A1 n1 c1 home A2 n2 c2 A3 n3 c3 s A n c l W (hs.ext hW) (Sights.ext hW hl)
  have HA := Lib.hid fun W (hW : Ext w W) => checkGuesses_c B m d gs t0 W (Sts.ext hW hg)
  unfold believeN believeL believeE
  by_cases h1 : trkErr s l = 0
  · by_cases h2 : askErr gs t0 = 0
    · have hm := hg.le
      have hml := hg.len
      by_cases h3 : gs = []
      · subst h3
        have hm0 : m = 0 := hml
        subst hm0
        rw [h1, h2]
        rw [h1] at HT
        rw [h2] at HA
        simp only [ne_eq, not_true, false_or, List.length_nil, if_true, if_false]
        clear h1 h2 hs hl hg hml
        go_enter Try.func43, Try.ntmps43
        go_wp2_with fail
        refine (HT.out _ (by (repeat' (first | exact Ext.refl _ | assumption | apply Ext.alloc | apply Ext.drew | refine Ext.set ?_ (by dsimp only; omega) _ | refine Ext.trans ?_ (by assumption))))).mono ?_
        rintro e w1 ⟨rfl, h1⟩; obtain ⟨hc_w1, hf_w1, hz_w1⟩ := bcell h1; (repeat (first | rw [World.size_alloc] at hz_w1 | rw [World.size_drew] at hz_w1 | rw [World.size_setCell] at hz_w1)); have : w.heap.size < w1.heap.size := (by omega); have : w.heap.size + 1 < w1.heap.size := (by omega); have : w.heap.size + 2 < w1.heap.size := (by omega)
        go_wp2_with fail
        refine (HA.out _ (by (repeat' (first | exact Ext.refl _ | assumption | apply Ext.alloc | apply Ext.drew | refine Ext.set ?_ (by dsimp only; omega) _ | refine Ext.trans ?_ (by assumption))))).mono ?_
        rintro e w2 ⟨rfl, h2⟩; obtain ⟨hc_w2, hf_w2, hz_w2⟩ := bcell h2; (repeat (first | rw [World.size_alloc] at hz_w2 | rw [World.size_drew] at hz_w2 | rw [World.size_setCell] at hz_w2)); have : w.heap.size < w2.heap.size := (by omega); have : w.heap.size + 1 < w2.heap.size := (by omega); have : w.heap.size + 2 < w2.heap.size := (by omega)
        go_wp2_with fail
        go_ret3
        exact Ret3.mk rfl (by (repeat' (first | exact Ext.refl _ | assumption | apply Ext.alloc | apply Ext.drew | refine Ext.set ?_ (by dsimp only; omega) _ | refine Ext.trans ?_ (by assumption))))
      · obtain ⟨i, g, hi, hgi⟩ := best_at (lenW s l t0) h3
        have hlen : gs.length ≠ 0 := fun h => h3 (List.eq_nil_of_length_eq_zero h)
        have hget : gs.getD i ⟨0, 0, 0, 0⟩ = g := by rw [List.getD_eq_getElem?_getD, hgi]; rfl
        rw [h1, h2, hi]
        simp only [ne_eq, not_true, false_or, hlen, if_false, Int.toNat_natCast, hget]
        have hok := trk_ok h1
        have hn64 : n ≤ 64 := by rw [hl.len]; exact trk_len h1
        obtain ⟨hm64, ht, hgo⟩ := ask_ok h2
        have HBst := Lib.hid fun W (hW : Ext w W) b (hb : ∃ t, Blk W b t #[.func (.func 97) #[] #[.pointer (some ⟨w.heap.size + 1, 0, none⟩), .pointer (some ⟨w.heap.size + 1 + 1, 0, none⟩), .pointer (some ⟨w.heap.size, 0, none⟩)]])
            (q1 : ∃ t, Blk W (w.heap.size + 1) t #[.slice A n c]) (q2 : ∃ t, Blk W (w.heap.size + 1 + 1) t #[.int .i64 t0]) (q3 : ∃ t, Blk W w.heap.size t #[.slice A1 n1 c1, .int .i64 home, .slice A2 n2 c2, .slice A3 n3 c3]) =>
          best_c B m d gs 100 #[.pointer (some ⟨b, 0, none⟩)] (lenW s l t0) W (Sts.ext hW hg) Try.call100 (fun x hx W2 hW2 => many_c x.x x.y x.u x.v b #[.pointer (some ⟨w.heap.size + 1, 0, none⟩), .pointer (some ⟨w.heap.size + 1 + 1, 0, none⟩), .pointer (some ⟨w.heap.size, 0, none⟩)] (wrongL s l ⟨x.x, x.y, x.u, x.v⟩ t0) W2 (hb.imp fun t h => h.ext hW2)
            (fun W3 hW3 => wrong_c A1 n1 c1 home A2 n2 c2 A3 n3 c3 s x.x x.y x.u x.v t0 A n c l _ _ _ W3 (hs.ext (hW.trans (hW2.trans hW3))) (Sights.ext (hW.trans (hW2.trans hW3)) hl) (q1.imp fun t h => h.ext (hW2.trans hW3)) (q2.imp fun t h => h.ext (hW2.trans hW3)) (q3.imp fun t h => h.ext (hW2.trans hW3)) hok (hgo x hx) ht (by omega)))
        have HWr := Lib.hid fun W (hW : Ext w W)
            (q1 : ∃ t, Blk W (w.heap.size + 1) t #[.slice A n c]) (q2 : ∃ t, Blk W (w.heap.size + 1 + 1) t #[.int .i64 t0]) (q3 : ∃ t, Blk W w.heap.size t #[.slice A1 n1 c1, .int .i64 home, .slice A2 n2 c2, .slice A3 n3 c3]) =>
          wrong_c A1 n1 c1 home A2 n2 c2 A3 n3 c3 s g.x g.y g.u g.v t0 A n c l _ _ _ W (hs.ext hW) (Sights.ext hW hl) q1 q2 q3 hok (hgo g (List.mem_of_getElem? hgi)) ht (by omega)
        rw [hi] at HBst
        rw [h1] at HT
        rw [h2] at HA
        obtain ⟨him, b, off, rfl, hcg⟩ := hg.get hgi
        have hm0 : ((m : Int) == 0) = false := by simp; omega
        obtain ⟨L, hL⟩ : ∃ L, wrongL s l g t0 = L := ⟨_, rfl⟩
        have hL' : wrongL s l ⟨g.x, g.y, g.u, g.v⟩ t0 = L := hL
        rw [hL'] at HWr
        rw [hL]
        have hcall := Try.call97
        clear h1 h2 h3 hi hgi hlen hget hok hgo ht hs hl hg hml hL hL' hm64
        go_enter Try.func43, Try.ntmps43
        go_wp2_with fail
        refine (HT.out _ (by (repeat' (first | exact Ext.refl _ | assumption | apply Ext.alloc | apply Ext.drew | refine Ext.set ?_ (by dsimp only; omega) _ | refine Ext.trans ?_ (by assumption))))).mono ?_
        rintro e w1 ⟨rfl, h1⟩; obtain ⟨hc_w1, hf_w1, hz_w1⟩ := bcell h1; (repeat (first | rw [World.size_alloc] at hz_w1 | rw [World.size_drew] at hz_w1 | rw [World.size_setCell] at hz_w1)); have : w.heap.size < w1.heap.size := (by omega); have : w.heap.size + 1 < w1.heap.size := (by omega); have : w.heap.size + 2 < w1.heap.size := (by omega)
        go_wp2_with fail
        refine (HA.out _ (by (repeat' (first | exact Ext.refl _ | assumption | apply Ext.alloc | apply Ext.drew | refine Ext.set ?_ (by dsimp only; omega) _ | refine Ext.trans ?_ (by assumption))))).mono ?_
        rintro e w2 ⟨rfl, h2⟩; obtain ⟨hc_w2, hf_w2, hz_w2⟩ := bcell h2; (repeat (first | rw [World.size_alloc] at hz_w2 | rw [World.size_drew] at hz_w2 | rw [World.size_setCell] at hz_w2)); have : w.heap.size < w2.heap.size := (by omega); have : w.heap.size + 1 < w2.heap.size := (by omega); have : w.heap.size + 2 < w2.heap.size := (by omega)
        have q1 : Blk w2 (w.heap.size + 1) _ #[.slice A n c] := ((Blk.newAt (by simp)).alloc _).ext (h1.trans h2)
        have q2 : Blk w2 (w.heap.size + 1 + 1) _ #[.int .i64 t0] := (Blk.newAt (by simp)).ext (h1.trans h2)
        have q3 : Blk w2 w.heap.size _ #[.slice A1 n1 c1, .int .i64 home, .slice A2 n2 c2, .slice A3 n3 c3] := (((Blk.newAt rfl).alloc _).alloc _).ext (h1.trans h2)
        have e2 : Ext w w2 := by (repeat' (first | exact Ext.refl _ | assumption | apply Ext.alloc | apply Ext.drew | refine Ext.set ?_ (by dsimp only; omega) _ | refine Ext.trans ?_ (by assumption)))
        have Q1 := Lib.hid q1
        have Q2 := Lib.hid q2
        have Q3 := Lib.hid q3
        clear q1 q2 q3
        go_wp2_with fail
        refine (HBst.out _ (by (repeat' (first | exact Ext.refl _ | assumption | apply Ext.alloc | apply Ext.drew | refine Ext.set ?_ (by dsimp only; omega) _ | refine Ext.trans ?_ (by assumption)))) _ ⟨_, Blk.newAt rfl⟩ ⟨_, Q1.out.alloc _⟩ ⟨_, Q2.out.alloc _⟩ ⟨_, Q3.out.alloc _⟩).mono ?_
        rintro e w3 ⟨rfl, h3⟩; obtain ⟨hc_w3, hf_w3, hz_w3⟩ := bcell h3; (repeat (first | rw [World.size_alloc] at hz_w3 | rw [World.size_drew] at hz_w3 | rw [World.size_setCell] at hz_w3)); have : w.heap.size < w3.heap.size := (by omega); have : w.heap.size + 1 < w3.heap.size := (by omega); have : w.heap.size + 2 < w3.heap.size := (by omega)
        have q4 : Blk w3 w2.heap.size _ #[.func (.func 97) #[] #[.pointer (some ⟨w.heap.size + 1, 0, none⟩), .pointer (some ⟨w.heap.size + 1 + 1, 0, none⟩), .pointer (some ⟨w.heap.size, 0, none⟩)]] := (Blk.newAt rfl).ext h3
        have hw23 : w2.heap.size < w3.heap.size := q4.lt
        have e3 : Ext w2 w3 := by (repeat' (first | exact Ext.refl _ | assumption | apply Ext.alloc | apply Ext.drew | refine Ext.set ?_ (by dsimp only; omega) _ | refine Ext.trans ?_ (by assumption)))
        obtain ⟨hd0, hd1, hd2, hd3⟩ := stAt.ext (e2.trans e3) hcg
        have hbl : b < w3.heap.size := World.block_lt_of_cell? w3 _ hd0
        have hc4 := q4.cell
        clear q4
        go_wp2_with fail
        refine wp_region_gen [0, 1, 2, 3, 4, 5] [] [6, 7, 8, 9] (Ext _) (Ext _) (Stable.ext _) (fun _ h => h) (Ext.drew (Ext.refl _)) (by kernel_rfl) (by kernel_rfl) ?_
        repeat' (first | (refine bl_off (by rfl) ?_; simp only [Act.put, List.setIfInBounds_toArray, List.set_cons_zero, List.set_cons_succ]) | (apply bl_op; rfl; (intro w1 h1; obtain ⟨hc, hf, hz⟩ := bcell h1; go_simp; (try go_bits); (first | exact ⟨rfl, Ext.refl _⟩)); simp only [Act.put, List.setIfInBounds_toArray, List.set_cons_zero, List.set_cons_succ]) | (refine bl_split rfl rfl (fun hx => ?_) (fun hx => ?_) <;> simp only [hx]))
        refine bl_nil ?_
        refine ag_nil ?_
        refine tg_call (fun v w' => ∃ A' c', v = .slice A' L.length c' ∧ Ints w' A' L.length L) rfl (Stable.ext _) (fun _ h => h) (fun v W W' ⟨A', c', h1, h2⟩ e => ⟨A', c', h1, Ints.ext e h2⟩) (fun w h => by go_simp; exact ⟨rfl, rfl⟩) (fun W h => ?_) (fun v => ?_)
        · refine (HWr.out W (by (repeat' (first | exact Ext.refl _ | assumption | apply Ext.alloc | apply Ext.drew | refine Ext.set ?_ (by dsimp only; omega) _ | refine Ext.trans ?_ (by assumption)))) ⟨_, (Q1.out.alloc _).ext (h3.trans h)⟩ ⟨_, (Q2.out.alloc _).ext (h3.trans h)⟩ ⟨_, (Q3.out.alloc _).ext (h3.trans h)⟩).mono ?_
          rintro e w' ⟨A', c', rfl, hL, hx⟩
          exact ⟨_, rfl, ⟨A', c', rfl, hL⟩, hx⟩
        · refine tg_val rfl ((Stable.ext _).and ?_) (fun _ h => h.1) (v := .int .i64 i) (fun w h => by go_simp) ?_
          · rintro W W' ⟨A', c', h1, h2⟩ e
            exact ⟨A', c', h1, Ints.ext e h2⟩
          refine tg_val rfl ((Stable.ext _).and ?_) (fun _ h => h.1) (v := v) (fun w h => by go_simp) ?_
          · rintro W W' ⟨A', c', h1, h2⟩ e
            exact ⟨A', c', h1, Ints.ext e h2⟩
          refine tg_val rfl ((Stable.ext _).and ?_) (fun _ h => h.1) (v := .int .i64 0) (fun w h => by go_simp) ?_
          · rintro W W' ⟨A', c', h1, h2⟩ e
            exact ⟨A', c', h1, Ints.ext e h2⟩
          refine tg_nil ?_
          rintro w5 ⟨h5, A', c', rfl, hL⟩
          go_wp2_with fail
          go_ret3
          exact ⟨A', c', rfl, hL, by (repeat' (first | exact Ext.refl _ | assumption | apply Ext.alloc | apply Ext.drew | refine Ext.set ?_ (by dsimp only; omega) _ | refine Ext.trans ?_ (by assumption)))⟩
    · have h2' : (askErr gs t0 != 0) = true := by simpa using h2
      rw [h1]
      rw [h1] at HT
      simp only [ne_eq, not_true, false_or, h2, not_false_eq_true, true_or, if_true, if_false]
      generalize askErr gs t0 = E at *
      clear h1 hs hl hg h2
      go_enter Try.func43, Try.ntmps43
      go_wp2_with fail
      refine (HT.out _ (by (repeat' (first | exact Ext.refl _ | assumption | apply Ext.alloc | apply Ext.drew | refine Ext.set ?_ (by dsimp only; omega) _ | refine Ext.trans ?_ (by assumption))))).mono ?_
      rintro e w1 ⟨rfl, h1⟩; obtain ⟨hc_w1, hf_w1, hz_w1⟩ := bcell h1; (repeat (first | rw [World.size_alloc] at hz_w1 | rw [World.size_drew] at hz_w1 | rw [World.size_setCell] at hz_w1)); have : w.heap.size < w1.heap.size := (by omega); have : w.heap.size + 1 < w1.heap.size := (by omega); have : w.heap.size + 2 < w1.heap.size := (by omega)
      go_wp2_with fail
      refine (HA.out _ (by (repeat' (first | exact Ext.refl _ | assumption | apply Ext.alloc | apply Ext.drew | refine Ext.set ?_ (by dsimp only; omega) _ | refine Ext.trans ?_ (by assumption))))).mono ?_
      rintro e w2 ⟨rfl, h2⟩; obtain ⟨hc_w2, hf_w2, hz_w2⟩ := bcell h2; (repeat (first | rw [World.size_alloc] at hz_w2 | rw [World.size_drew] at hz_w2 | rw [World.size_setCell] at hz_w2)); have : w.heap.size < w2.heap.size := (by omega); have : w.heap.size + 1 < w2.heap.size := (by omega); have : w.heap.size + 2 < w2.heap.size := (by omega)
      go_wp2_with fail
      go_ret3
      exact Ret3.mk rfl (by (repeat' (first | exact Ext.refl _ | assumption | apply Ext.alloc | apply Ext.drew | refine Ext.set ?_ (by dsimp only; omega) _ | refine Ext.trans ?_ (by assumption))))
  · have h1' : (trkErr s l != 0) = true := by simpa using h1
    simp only [ne_eq, h1, not_false_eq_true, true_or, if_true]
    generalize trkErr s l = E at *
    clear hs hl hg h1
    go_enter Try.func43, Try.ntmps43
    go_wp2_with fail
    refine (HT.out _ (by (repeat' (first | exact Ext.refl _ | assumption | apply Ext.alloc | apply Ext.drew | refine Ext.set ?_ (by dsimp only; omega) _ | refine Ext.trans ?_ (by assumption))))).mono ?_
    rintro e w1 ⟨rfl, h1⟩; obtain ⟨hc_w1, hf_w1, hz_w1⟩ := bcell h1; (repeat (first | rw [World.size_alloc] at hz_w1 | rw [World.size_drew] at hz_w1 | rw [World.size_setCell] at hz_w1)); have : w.heap.size < w1.heap.size := (by omega); have : w.heap.size + 1 < w1.heap.size := (by omega); have : w.heap.size + 2 < w1.heap.size := (by omega)
    go_wp2_with fail
    go_ret3
    exact Ret3.mk rfl (by (repeat' (first | exact Ext.refl _ | assumption | apply Ext.alloc | apply Ext.drew | refine Ext.set ?_ (by dsimp only; omega) _ | refine Ext.trans ?_ (by assumption))))
end Go.Proofs.Ytmgjjgmadiabfaa
