/- The law SkyLinks: for every input it returns true. No condition. -/
import Derived.Test.YtmgjjgmadiabfaaRefLink
namespace Go.Proofs.Ytmgjjgmadiabfaa
open Go.RowKit

set_option maxRecDepth 4000 in
set_option maxHeartbeats 2000000 in
theorem SkyLinks_c (A1 : Option Addr) (n1 c1 : Nat) (home : Int) (A2 : Option Addr) (n2 c2 : Nat) (A3 : Option Addr) (n3 c3 : Nat) (s : Sky) (A : Option Addr) (n c : Nat) (a : List Sight) (A' : Option Addr) (n' c' : Nat) (b : List Sight) (B : Option Addr) (m d : Nat) (gs : List St) (t0 : Int) (w : World) (hs : IsSky w A1 n1 home A2 n2 A3 n3 s) (ha : Sights w A n a) (hb : Sights w A' n' b) (hg : Sts w B m gs) :
    Calls Try.prog 14 #[.agg #[.slice A1 n1 c1, .int .i64 home, .slice A2 n2 c2, .slice A3 n3 c3], .slice A n c, .slice A' n' c', .slice B m d, .int .i64 t0] w fun e w' => e = .returned (.bool true) ∧ Ext w w' := by
  have hm := hg.le
  have HB := Lib.hid fun A0 c0 W (hW : Ext w W) h => big_c A1 n1 c1 home A2 n2 c2 A3 n3 c3 s B m d A0 2 c0 [a, b] W (hs.ext hW) hm h
  have HTr := Lib.hid fun A0 W (hW : Ext w W) (h : ∃ g t, A0 = some ⟨g, 0, none⟩ ∧ Blk W g t #[.slice A n c, .slice A' n' c']) => show Trks W A0 2 [a, b] from by
    obtain ⟨g, t, rfl, hB⟩ := h
    exact ⟨rfl, by decide, .inr ⟨g, 0, rfl, two (P := fun x k => trkAt W x g (0 + k * 1)) ⟨A, n, c, hB.cell 0, Sights.ext hW ha⟩ ⟨A', n', c', hB.cell 1, Sights.ext hW hb⟩⟩⟩
  have HF := Lib.hid fun W (hW : Ext w W) => Link_c A1 n1 c1 home A2 n2 c2 A3 n3 c3 s A n c a A' n' c' b B m d gs t0 W (hs.ext hW) (Sights.ext hW ha) (Sights.ext hW hb) (Sts.ext hW hg)
  have HR := Lib.hid fun W (hW : Ext w W) => refLink_c A1 n1 c1 home A2 n2 c2 A3 n3 c3 s A n c a A' n' c' b B m d gs t0 W (hs.ext hW) (Sights.ext hW ha) (Sights.ext hW hb) (Sts.ext hW hg)
  generalize (linkR s a b gs t0).1 = M1 at *
  generalize (linkR s a b gs t0).2 = M2 at *
  generalize linkErr s a b gs t0 = M3 at *
  generalize bigM s m [a, b] = G at *
  clear hs hg ha hb
  go_enter Try.func14, Try.ntmps14
  go_wp2_with fail
  refine (HB.out _ _ _ (by (repeat' (first | exact Ext.refl _ | assumption | apply Ext.alloc | apply Ext.drew | refine Ext.set ?_ (by dsimp only; omega) _ | refine Ext.trans ?_ (by assumption)))) (HTr.out _ _ (by (repeat' (first | exact Ext.refl _ | assumption | apply Ext.alloc | apply Ext.drew | refine Ext.set ?_ (by dsimp only; omega) _ | refine Ext.trans ?_ (by assumption)))) ⟨_, _, rfl, Blk.newAt (by simp)⟩)).mono ?_
  rintro e w1 ⟨rfl, h1⟩; obtain ⟨hc_w1, hf_w1, hz_w1⟩ := bcell h1; (repeat (first | rw [World.size_alloc] at hz_w1 | rw [World.size_drew] at hz_w1 | rw [World.size_setCell] at hz_w1)); have : w.heap.size < w1.heap.size := (by omega)
  cases G
  · go_wp2_with fail
    refine (HF.out _ (by (repeat' (first | exact Ext.refl _ | assumption | apply Ext.alloc | apply Ext.drew | refine Ext.set ?_ (by dsimp only; omega) _ | refine Ext.trans ?_ (by assumption))))).mono ?_
    rintro e w3 ⟨A3', c3', rfl, hI3, h3⟩
    obtain ⟨hc3, hf3, hz3⟩ := bcell h3
    have hws3 : w.heap.size < w3.heap.size := by omega
    have HI3 := Lib.hid hI3
    clear hI3
    go_wp2_with fail
    refine (HR.out _ (by (repeat' (first | exact Ext.refl _ | assumption | apply Ext.alloc | apply Ext.drew | refine Ext.set ?_ (by dsimp only; omega) _ | refine Ext.trans ?_ (by assumption))))).mono ?_
    rintro e w4 ⟨A4', c4', rfl, hI4, h4⟩
    obtain ⟨hc4, hf4, hz4⟩ := bcell h4
    have HS := Lib.hid fun W (hW : Ext w4 W) => SameInts_c A3' M2.length c3' A4' M2.length c4' M2 W (Ints.ext (h4.trans hW) HI3.out) (Ints.ext hW hI4)
    clear hI4
    go_wp2_with fail
    refine (HS.out _ (by (repeat' (first | exact Ext.refl _ | assumption | apply Ext.alloc | apply Ext.drew | refine Ext.set ?_ (by dsimp only; omega) _ | refine Ext.trans ?_ (by assumption))))).mono ?_
    rintro e w5 ⟨rfl, h5⟩; obtain ⟨hc_w5, hf_w5, hz_w5⟩ := bcell h5; (repeat (first | rw [World.size_alloc] at hz_w5 | rw [World.size_drew] at hz_w5 | rw [World.size_setCell] at hz_w5))
    go_wp2_with fail
    refine (awake_c _).mono ?_
    rintro e w6 ⟨rfl, h6⟩; obtain ⟨hc_w6, hf_w6, hz_w6⟩ := bcell h6; (repeat (first | rw [World.size_alloc] at hz_w6 | rw [World.size_drew] at hz_w6 | rw [World.size_setCell] at hz_w6))
    go_wp2_with fail
    go_ret
    exact ⟨rfl, by (repeat' (first | exact Ext.refl _ | assumption | apply Ext.alloc | apply Ext.drew | refine Ext.set ?_ (by dsimp only; omega) _ | refine Ext.trans ?_ (by assumption)))⟩
  · go_wp2_with fail
    refine (awake_c _).mono ?_
    rintro e w2 ⟨rfl, h2⟩; obtain ⟨hc_w2, hf_w2, hz_w2⟩ := bcell h2; (repeat (first | rw [World.size_alloc] at hz_w2 | rw [World.size_drew] at hz_w2 | rw [World.size_setCell] at hz_w2))
    go_wp2_with fail
    go_ret
    exact ⟨rfl, by (repeat' (first | exact Ext.refl _ | assumption | apply Ext.alloc | apply Ext.drew | refine Ext.set ?_ (by dsimp only; omega) _ | refine Ext.trans ?_ (by assumption)))⟩
end Go.Proofs.Ytmgjjgmadiabfaa
