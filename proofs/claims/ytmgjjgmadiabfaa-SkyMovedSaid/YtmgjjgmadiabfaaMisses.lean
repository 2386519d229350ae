/- Which sight a guess misses: the program and the reference. No condition. -/
import Derived.Test.YtmgjjgmadiabfaaFails
namespace Go.Proofs.Ytmgjjgmadiabfaa
open Go.RowKit

theorem trk_all {s : Sky} : ∀ (l : List Sight) (m : Int), trkFrom s l m = 0 → ∀ x ∈ l, sightErr2 s x = 0
  | [], _, _, x, hx => by cases hx
  | y :: r, m, h, x, hx => by
    rw [trkFrom] at h
    by_cases h0 : sightErr2 s y = 0
    · rw [if_neg (by simp [h0])] at h
      by_cases h1 : y.tick < m
      · rw [if_pos h1] at h; cases h
      · rw [if_neg h1] at h
        rcases List.mem_cons.1 hx with rfl | hx
        · exact h0
        · exact trk_all r _ h x hx
    · rw [if_pos h0] at h; exact absurd h h0
theorem trk_ok {s : Sky} {l : List Sight} (h : trkErr s l = 0) : ∀ x ∈ l, sightErr2 s x = 0 := by
  unfold trkErr at h
  by_cases h0 : skyErr s = 0
  · rw [if_neg (by simp [h0])] at h
    by_cases h1 : l.length = 0
    · rw [if_pos h1] at h; cases h
    · rw [if_neg h1] at h
      by_cases h2 : 64 < l.length
      · rw [if_pos h2] at h; cases h
      · rw [if_neg h2] at h; exact trk_all l 0 h
  · rw [if_pos h0] at h; exact absurd h h0


set_option maxHeartbeats 400000 in
theorem idxSight_c (A : Option Addr) (n c : Nat) (l : List Sight) (fid : Nat) (cap : Array Value) (p : Sight → Bool) (w : World) (hl : Sights w A n l)
    (hcall : ∀ (xs : Array Value) (W : World), (callFunc fid xs).run Try.prog W = .ok (.enter fid xs) W)
    (hf : ∀ x ∈ l, ∀ W, Ext w W → Calls Try.prog fid (#[.agg #[.int .i64 x.kind, .int .i64 x.station, .int .i64 x.catalog, .int .i64 x.tick, .int .i64 x.dx, .int .i64 x.dy, .int .i64 x.err, .int .i64 x.lo, .int .i64 x.hi]] ++ cap) W fun e w' => e = .returned (.bool (p x)) ∧ Ext W w') :
    Calls Try.prog 114 #[.slice A n c, .func (.func fid) #[] cap] w fun e w' => e = .returned (.int .i64 (idxFrom p l 0)) ∧ Ext w w' := by
  have hn := hl.le
  have Hf := Lib.hid hf
  clear hf
  go_enter Try.func114, Try.ntmps114
  go_wp2_with fail
  go_loopw [8] (fun i wr => ∃ k : Nat, k ≤ n ∧ i = .int .i64 k ∧ Hid (idxFrom p (l.drop k) k = idxFrom p l 0) ∧ Ext w wr) (fun i _ => n - (intOf i).toNat)
  case atStart => exact ⟨0, Nat.zero_le _, rfl, rfl, Ext.refl _⟩
  case round =>
    obtain ⟨k, hk, rfl, HI, hb⟩ := hrel
    by_cases hlt : k < n
    · obtain ⟨b, off, x, rfl, HD, hxm, hx⟩ := hl.one hlt
      obtain ⟨hx0, hx1, hx2, hx3, hx4, hx5, hx6, hx7, hx8⟩ := sightAt.ext hb hx
      go_wp2_with fail
      refine (Hf.out x hxm _ hb).mono ?_
      rintro e w1 ⟨rfl, h1⟩
      cases hp : p x
      · go_wp2_with fail
        go_roundw
        case rel => exact ⟨k + 1, by omega, by go_num, by have := HI.out; rw [HD.out] at this; simpa [Hid, idxFrom, hp] using this, hb.trans h1⟩
        case measure => simp [intOf]; omega
      · go_wp2_with fail
        go_ret
        exact ⟨ret_i (by have := HI.out; rw [HD.out] at this; simpa [idxFrom, hp] using this), hb.trans h1⟩
    · have : k = l.length := by have := hl.len; omega
      subst this
      go_wp2_with fail
      go_ret
      refine ⟨ret_i ?_, hb⟩
      have := HI.out
      simpa [idxFrom] using this


/-- The number of the first sight that a guess misses; -1 if there is none. -/
def missFrom (s : Sky) (g : St) (t0 : Int) (l : List Sight) (k : Nat) : Int := idxFrom (fun x => !fitsM s x g t0) l k

set_option maxHeartbeats 1000000 in
theorem misses1_c (A1 : Option Addr) (n1 c1 : Nat) (home : Int) (A2 : Option Addr) (n2 c2 : Nat) (A3 : Option Addr) (n3 c3 : Nat) (s : Sky) (gx gy gu gv : Int) (t0 : Int) (x : Sight) (b1 b2 : Nat) (w : World) (hs : IsSky w A1 n1 home A2 n2 A3 n3 s)
    (h1 : ∃ t, Blk w b1 t #[.int .i64 gx, .int .i64 gy, .int .i64 gu, .int .i64 gv, .int .i64 t0]) (h2 : ∃ t, Blk w b2 t #[.slice A1 n1 c1, .int .i64 home, .slice A2 n2 c2, .slice A3 n3 c3])
    (hok : sightErr2 s x = 0) (hg : gOK ⟨gx, gy, gu, gv⟩ = true) (ht : within t0 0 1073741824 = true) :
    Calls Try.prog 115 #[.agg #[.int .i64 x.kind, .int .i64 x.station, .int .i64 x.catalog, .int .i64 x.tick, .int .i64 x.dx, .int .i64 x.dy, .int .i64 x.err, .int .i64 x.lo, .int .i64 x.hi], .pointer (some ⟨b1, 0, none⟩), .pointer (some ⟨b2, 0, none⟩)] w fun e w' =>
      e = .returned (.bool (!fitsM s x ⟨gx, gy, gu, gv⟩ t0)) ∧ Ext w w' := by
  have HF := Lib.hid fun W (hW : Ext w W) => fails_c A1 n1 c1 home A2 n2 c2 A3 n3 c3 s x.kind x.station x.catalog x.tick x.dx x.dy x.err x.lo x.hi gx gy gu gv t0 W (hs.ext hW) hok hg ht
  obtain ⟨t1, h1⟩ := h1
  obtain ⟨t2, h2⟩ := h2
  have hl1 := h1.lt
  have hl2 := h2.lt
  have hc1 := h1.cell
  have hc2 := h2.cell
  generalize fitsM s x ⟨gx, gy, gu, gv⟩ t0 = B at *
  clear h1 h2 hok hg ht hs
  go_enter Try.func115, Try.ntmps115
  go_wp2_with fail
  refine (HF.out _ (by (repeat' (first | exact Ext.refl _ | assumption | apply Ext.alloc | apply Ext.drew | refine Ext.set ?_ (by dsimp only; omega) _ | refine Ext.trans ?_ (by assumption))))).mono ?_
  rintro e w1 ⟨rfl, h1⟩; obtain ⟨hc_w1, hf_w1, hz_w1⟩ := bcell h1; (repeat (first | rw [World.size_alloc] at hz_w1 | rw [World.size_drew] at hz_w1 | rw [World.size_setCell] at hz_w1)); have : w.heap.size < w1.heap.size := (by omega)
  go_wp2_with fail
  go_ret
  exact ⟨rfl, by (repeat' (first | exact Ext.refl _ | assumption | apply Ext.alloc | apply Ext.drew | refine Ext.set ?_ (by dsimp only; omega) _ | refine Ext.trans ?_ (by assumption)))⟩
end Go.Proofs.Ytmgjjgmadiabfaa
