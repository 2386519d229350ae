/- The chapter's examples that every law of the sky asks; what counts as too great a sky. -/
import Derived.Test.YtmgjjgmadiabfaaRefAgree
namespace Go.Proofs.Ytmgjjgmadiabfaa
open Go.RowKit

def bigB (b : Body) : Bool := (decide (60 < b.track.length) && decide (b.track.length < 4096)) || decide (4097 < b.track.length)
def bigWld (l : List Body) : Bool := decide (10 < l.length) || l.any bigB
def bigSky (s : Sky) : Bool := bigWld s.world.bodies || decide (18 < s.stations.length) || decide (10 < s.catalogs.length)

set_option maxRecDepth 20000 in
set_option maxHeartbeats 1000000 in
theorem BigWorld_c (A : Option Addr) (n c : Nat) (home : Int) (l : List Body) (w : World) (hl : Bodies w A n l) :
    Calls Try.prog 56 #[.agg #[.slice A n c, .int .i64 home]] w fun e w' => e = .returned (.bool (bigWld l)) ∧ Ext w w' := by
  have hn := hl.le
  have hln := Lib.hid hl.len
  by_cases h8 : n ≤ 10
  · have Hb : Hid (bigWld l = l.any bigB) := by
      have h4 := hln.out; unfold bigWld; rw [← h4]; simp [Hid, show ¬ 10 < n by omega]
    go_enter Try.func56, Try.ntmps56
    go_wp2_with fail
    go_loopw [3] (fun i wr => ∃ k : Nat, k ≤ n ∧ i = .int .i64 k ∧ Hid ((l.drop k).any bigB = l.any bigB) ∧ Ext (w.alloc (.cells #[.slice A n c, .int .i64 home] 24)) wr) (fun i _ => n - (intOf i).toNat)
    case atStart => exact ⟨0, Nat.zero_le _, rfl, rfl, Ext.refl _⟩
    case round =>
      obtain ⟨k, hk, rfl, HI, hb⟩ := hrel
      obtain ⟨hcb, hfb, hzb⟩ := bcell hb
      by_cases hlt : k < n
      · obtain ⟨b, off, x, rfl, HD, hxm, hx⟩ := hl.one hlt
        obtain ⟨hx0, hx1, A', n', c', hx2, hx3⟩ := bodyAt.ext (Ext.trans (Ext.alloc0 _ _) hb) hx
        have hn' := hx3.le
        have hi := HI.out; rw [HD.out, List.any_cons] at hi
        have hl' := hx3.len
        have Hb' : Hid (bigB x = ((decide (60 < n') && decide (n' < 4096)) || decide (4097 < n'))) := by unfold bigB; rw [← hl']; rfl
        cases hp : bigB x
        · rw [hp, Bool.false_or] at hi
          have Hi := Lib.hid hi
          have Hp := Lib.hid hp
          clear hi hp hl' hx3
          go_wp2_with fail
          all_goals (first
            | (go_ret
               exfalso
               have h1 := Hp.out; rw [Hb'.out] at h1
               simp only [Bool.or_eq_false_iff, Bool.and_eq_false_iff, decide_eq_false_iff_not] at h1
               omega)
            | (go_roundw
               case rel => exact ⟨k + 1, by omega, by go_num, Hi, by (repeat' (first | exact Ext.refl _ | assumption | apply Ext.alloc | apply Ext.drew | refine Ext.set ?_ (by dsimp only; omega) _ | refine Ext.trans ?_ (by assumption)))⟩
               case measure => simp [intOf]; omega))
        · rw [hp, Bool.true_or] at hi
          have Hi := Lib.hid hi
          have Hp := Lib.hid hp
          clear hi hp hl' hx3
          go_wp2_with fail
          all_goals (first
            | (go_ret
               refine ⟨ret_b ?_, by (repeat' (first | exact Ext.refl _ | assumption | apply Ext.alloc | apply Ext.drew | refine Ext.set ?_ (by dsimp only; omega) _ | refine Ext.trans ?_ (by assumption)))⟩
               rw [Hb.out, ← Hi.out])
            | (exfalso
               have h1 := Hp.out; rw [Hb'.out] at h1
               simp only [Bool.or_eq_true, Bool.and_eq_true, decide_eq_true_eq] at h1
               omega))
      · have : k = n := by omega
        subst this
        have hi := HI.out; rw [hln.out, List.drop_length, List.any_nil] at hi
        have Hi := Lib.hid hi
        clear hi
        go_wp2_with fail
        go_ret
        exact ⟨ret_b (by rw [Hb.out, ← Hi.out]), by (repeat' (first | exact Ext.refl _ | assumption | apply Ext.alloc | apply Ext.drew | refine Ext.set ?_ (by dsimp only; omega) _ | refine Ext.trans ?_ (by assumption)))⟩
  · have h8' : 10 < n := by omega
    go_enter Try.func56, Try.ntmps56
    go_wp2_with fail
    go_ret
    refine ⟨ret_b ?_, by (repeat' (first | exact Ext.refl _ | assumption | apply Ext.alloc | apply Ext.drew | refine Ext.set ?_ (by dsimp only; omega) _ | refine Ext.trans ?_ (by assumption)))⟩
    have h4 := hln.out; unfold bigWld; rw [← h4]; simp [h8']

set_option maxHeartbeats 1000000 in
theorem BigSky_c (A1 : Option Addr) (n1 c1 : Nat) (home : Int) (A2 : Option Addr) (n2 c2 : Nat) (A3 : Option Addr) (n3 c3 : Nat) (s : Sky) (w : World) (hs : IsSky w A1 n1 home A2 n2 A3 n3 s) :
    Calls Try.prog 17 #[.agg #[.slice A1 n1 c1, .int .i64 home, .slice A2 n2 c2, .slice A3 n3 c3]] w fun e w' => e = .returned (.bool (bigSky s)) ∧ Ext w w' := by
  have hn2 := hs.stations.le
  have hn3 := hs.catalogs.le
  have h2 := Lib.hid hs.stations.len
  have h3 := Lib.hid hs.catalogs.len
  have HW := Lib.hid fun W (hW : Ext w W) => BigWorld_c A1 n1 c1 home s.world.bodies W (hs.ext hW).bodies
  unfold bigSky
  rw [← h2.out, ← h3.out]
  generalize bigWld s.world.bodies = B at *
  clear hs
  go_enter Try.func17, Try.ntmps17
  go_wp2_with fail
  refine (HW.out _ (by (repeat' (first | exact Ext.refl _ | assumption | apply Ext.alloc | apply Ext.drew | refine Ext.set ?_ (by dsimp only; omega) _ | refine Ext.trans ?_ (by assumption))))).mono ?_
  rintro e w1 ⟨rfl, h1⟩; obtain ⟨hc_w1, hf_w1, hz_w1⟩ := bcell h1; (repeat (first | rw [World.size_alloc] at hz_w1 | rw [World.size_drew] at hz_w1 | rw [World.size_setCell] at hz_w1)); have : w.heap.size < w1.heap.size := (by omega)
  go_wp2_with fail
  all_goals go_ret
  all_goals refine ⟨ret_b ?_, by (repeat' (first | exact Ext.refl _ | assumption | apply Ext.alloc | apply Ext.drew | refine Ext.set ?_ (by dsimp only; omega) _ | refine Ext.trans ?_ (by assumption)))⟩
  all_goals clear hc_w1 hf_w1
  all_goals (first | (simp_all; done) | (simp_all; (try rw [Bool.eq_iff_iff]); (try simp); omega))

/-- The sky S of the chapter's examples. -/
def shownS : Sky := ⟨⟨[⟨0, 0, [⟨0, 0⟩]⟩, ⟨0, 0, [⟨1000, 0⟩, ⟨0, 1000⟩]⟩], 1⟩, [⟨7, ⟨0, 10⟩⟩], [⟨1, 0, 0⟩, ⟨2, 100000, 200000⟩]⟩
def IsShown (w : World) (e : Ending) (w' : World) : Prop :=
  ∃ A1 c1 A2 c2 A3 c3, e = .returned (.agg #[.slice A1 2 c1, .int .i64 1, .slice A2 1 c2, .slice A3 2 c3]) ∧ IsSky w' A1 2 1 A2 1 A3 2 shownS ∧ Ext w w'

theorem Blk.alloc {w : World} {g : Nat} {t : TypeId} {cs : Array Value} (h : Blk w g t cs) (o : Obj) : Blk (w.alloc o) g t cs := Blk.ext h (Ext.alloc0 _ _)
theorem two {α : Type} {a b : α} {P : α → Nat → Prop} (h0 : P a 0) (h1 : P b 1) : ∀ k (h : k < [a, b].length), P ([a, b][k]) k
  | 0, _ => h0
  | 1, _ => h1
theorem one_ {α : Type} {a : α} {P : α → Nat → Prop} (h0 : P a 0) : ∀ k (h : k < [a].length), P ([a][k]) k
  | 0, _ => h0
theorem shown_sky {w : World} {b1 b2 b3 b4 b5 : Nat} {t1 t3 t4 t5 : TypeId} (h1 : Blk w b1 t1 #[.int .i64 0, .int .i64 0]) (h2 : Blk w b2 t1 #[.int .i64 1000, .int .i64 0, .int .i64 0, .int .i64 1000])
    (h3 : Blk w b3 t3 #[.int .i64 0, .int .i64 0, .slice (some ⟨b1, 0, none⟩) 1 1, .int .i64 0, .int .i64 0, .slice (some ⟨b2, 0, none⟩) 2 2])
    (h4 : Blk w b4 t4 #[.int .i64 7, .int .i64 0, .int .i64 10]) (h5 : Blk w b5 t5 #[.int .i64 1, .int .i64 0, .int .i64 0, .int .i64 2, .int .i64 100000, .int .i64 200000]) :
    IsSky w (some ⟨b3, 0, none⟩) 2 1 (some ⟨b4, 0, none⟩) 1 (some ⟨b5, 0, none⟩) 2 shownS := by
  refine ⟨⟨rfl, by decide, .inr ⟨b3, 0, rfl, ?_⟩⟩, rfl, ⟨rfl, by decide, .inr ⟨b4, 0, rfl, ?_⟩⟩, ⟨rfl, by decide, .inr ⟨b5, 0, rfl, ?_⟩⟩⟩
  · refine two (P := fun x k => bodyAt w x b3 (0 + k * 3)) ?_ ?_
    · exact ⟨h3.cell 0, h3.cell 1, _, _, _, h3.cell 2, ⟨rfl, by decide, .inr ⟨b1, 0, rfl, one_ (P := fun x k => vecAt w x b1 (0 + k * 2)) ⟨h1.cell 0, h1.cell 1⟩⟩⟩⟩
    · exact ⟨h3.cell 3, h3.cell 4, _, _, _, h3.cell 5, ⟨rfl, by decide, .inr ⟨b2, 0, rfl, two (P := fun x k => vecAt w x b2 (0 + k * 2)) ⟨h2.cell 0, h2.cell 1⟩ ⟨h2.cell 2, h2.cell 3⟩⟩⟩⟩
  · exact one_ (P := fun x k => stnAt w x b4 (0 + k * 3)) ⟨h4.cell 0, h4.cell 1, h4.cell 2⟩
  · exact two (P := fun x k => catAt w x b5 (0 + k * 3)) ⟨h5.cell 0, h5.cell 1, h5.cell 2⟩ ⟨h5.cell 3, h5.cell 4, h5.cell 5⟩

set_option maxRecDepth 4000 in
set_option maxHeartbeats 1000000 in
theorem shown_c (w : World) : Calls Try.prog 53 #[] w (IsShown w) := by
  go_enter Try.func53, Try.ntmps53
  go_wp2_with fail
  (try simp only [Exit.inBlock, Exit.then]); apply bodyPost_ret; (focus (simp only [results, Try.results53]; go_simp; try rfl)); rfl
  refine ⟨_, _, _, _, _, _, rfl, shown_sky (t1 := 30) (t3 := 67) (t4 := 95) (t5 := 99) (b1 := w.heap.size + 1 + 1) (b2 := w.heap.size + 1 + 1 + 1) ?_ ?_ ?_ ?_ ?_, by (repeat' (first | exact Ext.refl _ | assumption | apply Ext.alloc | apply Ext.drew | refine Ext.set ?_ (by dsimp only; omega) _ | refine Ext.trans ?_ (by assumption)))⟩
  all_goals repeat (first | exact Blk.newAt (by simp) | refine Blk.alloc ?_ _)

set_option maxHeartbeats 400000 in
theorem angle_c (cat : Int) (w : World) : Calls Try.prog 54 #[.int .i64 cat] w fun e w' => e = .returned (.agg #[.int .i64 1, .int .i64 7, .int .i64 cat, .int .i64 0, .int .i64 0, .int .i64 1, .int .i64 100000, .int .i64 0, .int .i64 0]) ∧ Ext w w' := by
  go_enter Try.func54, Try.ntmps54
  go_wp2_with fail
  (try simp only [Exit.inBlock, Exit.then]); apply bodyPost_ret; (focus (simp only [results, Try.results54]; go_simp; try rfl)); rfl
  exact ⟨rfl, by (repeat' (first | exact Ext.refl _ | assumption | apply Ext.alloc | apply Ext.drew | refine Ext.set ?_ (by dsimp only; omega) _ | refine Ext.trans ?_ (by assumption)))⟩

theorem shown_where : whereM shownS 7 2 = some ⟨1000, 10⟩ := rfl
theorem shown_yes : agreesAll shownS ⟨1, 7, 1, 0, 0, 1, 100000, 0, 0⟩ 1010 110 = true := rfl
theorem shown_no : agreesAll shownS ⟨1, 7, 1, 0, 0, 1, 100000, 0, 0⟩ 1011 110 = false := rfl

set_option maxRecDepth 4000 in
set_option maxHeartbeats 1000000 in
theorem awake_c (w : World) : Calls Try.prog 18 #[] w fun e w' => e = .returned (.bool true) ∧ Ext w w' := by
  go_enter Try.func18, Try.ntmps18
  go_wp2_with fail
  refine (shown_c _).mono ?_
  rintro e w1 ⟨A1, c1, A2, c2, A3, c3, rfl, hs1, h1⟩
  go_wp2_with fail
  refine (Where_c _ _ _ _ _ _ _ _ _ _ shownS _ _ _ hs1).mono ?_
  rw [shown_where]
  rintro e w2 ⟨rfl, h2⟩; obtain ⟨hc_w2, hf_w2, hz_w2⟩ := bcell h2; (repeat (first | rw [World.size_alloc] at hz_w2 | rw [World.size_drew] at hz_w2 | rw [World.size_setCell] at hz_w2))
  go_wp2_with fail
  refine (shown_c _).mono ?_
  rintro e w3 ⟨A1', c1', A2', c2', A3', c3', rfl, hs3, h3⟩
  go_wp2_with fail
  refine (angle_c _ _).mono ?_
  rintro e w4 ⟨rfl, h4⟩; obtain ⟨hc_w4, hf_w4, hz_w4⟩ := bcell h4; (repeat (first | rw [World.size_alloc] at hz_w4 | rw [World.size_drew] at hz_w4 | rw [World.size_setCell] at hz_w4))
  go_wp2_with fail
  refine (Agrees_c _ _ _ _ _ _ _ _ _ _ shownS _ _ _ _ _ _ _ _ _ _ _ _ (hs3.ext h4)).mono ?_
  rw [shown_yes]
  rintro e w5 ⟨rfl, h5⟩; obtain ⟨hc_w5, hf_w5, hz_w5⟩ := bcell h5; (repeat (first | rw [World.size_alloc] at hz_w5 | rw [World.size_drew] at hz_w5 | rw [World.size_setCell] at hz_w5))
  go_wp2_with fail
  refine (shown_c _).mono ?_
  rintro e w6 ⟨A1'', c1'', A2'', c2'', A3'', c3'', rfl, hs6, h6⟩
  go_wp2_with fail
  refine (angle_c _ _).mono ?_
  rintro e w7 ⟨rfl, h7⟩; obtain ⟨hc_w7, hf_w7, hz_w7⟩ := bcell h7; (repeat (first | rw [World.size_alloc] at hz_w7 | rw [World.size_drew] at hz_w7 | rw [World.size_setCell] at hz_w7))
  go_wp2_with fail
  refine (Agrees_c _ _ _ _ _ _ _ _ _ _ shownS _ _ _ _ _ _ _ _ _ _ _ _ (hs6.ext h7)).mono ?_
  rw [shown_no]
  rintro e w8 ⟨rfl, h8⟩; obtain ⟨hc_w8, hf_w8, hz_w8⟩ := bcell h8; (repeat (first | rw [World.size_alloc] at hz_w8 | rw [World.size_drew] at hz_w8 | rw [World.size_setCell] at hz_w8))
  go_wp2_with fail
  go_ret
  exact ⟨rfl, by (repeat' (first | exact Ext.refl _ | assumption | apply Ext.alloc | apply Ext.drew | refine Ext.set ?_ (by dsimp only; omega) _ | refine Ext.trans ?_ (by assumption)))⟩
end Go.Proofs.Ytmgjjgmadiabfaa
