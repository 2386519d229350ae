/- The chapter's examples that every law of the sky asks; what counts as too great a sky. Guesses, and whether they miss a sight. No condition. Which sight a guess misses: the program and the reference. No condition. What the reference's Miss answers; what counts as too great. No condition. -/
import Derived.Test.YtfniicgoeljmdaaGreatRefAgree
namespace Go.Proofs.YtfniicgoeljmdaaGreat
open Go.RowKit

theorem Blk.alloc {w : World} {g : Nat} {t : TypeId} {cs : Array Value} (h : Blk w g t cs) (o : Obj) : Blk (w.alloc o) g t cs := Blk.ext h (Ext.alloc0 _ _)
theorem two {α : Type} {a b : α} {P : α → Nat → Prop} (h0 : P a 0) (h1 : P b 1) : ∀ k (h : k < [a, b].length), P ([a, b][k]) k
  | 0, _ => h0
  | 1, _ => h1
end Go.Proofs.YtfniicgoeljmdaaGreat

namespace Go.Proofs.YtfniicgoeljmdaaGreat
open Go.RowKit

structure GB (g : St) (t0 t : Int) : Prop where
  x : -33554432 ≤ g.x ∧ g.x ≤ 33554432
  y : -33554432 ≤ g.y ∧ g.y ≤ 33554432
  n : -1073741824 ≤ t - t0 ∧ t - t0 ≤ 1073741824
  u : -1125899906842624 ≤ g.u * (t - t0) ∧ g.u * (t - t0) ≤ 1125899906842624
  v : -1125899906842624 ≤ g.v * (t - t0) ∧ g.v * (t - t0) ≤ 1125899906842624
end Go.Proofs.YtfniicgoeljmdaaGreat

namespace Go.Proofs.YtfniicgoeljmdaaGreat
open Go.RowKit

set_option maxHeartbeats 400000 in
theorem idxSight_c (A : Option Addr) (n c : Nat) (l : List Sight) (fid : Nat) (cap : Array Value) (p : Sight → Bool) (w : World) (hl : Sights w A n l)
    (hcall : ∀ (xs : Array Value) (W : World), (callFunc fid xs).run Tryz.prog W = .ok (.enter fid xs) W)
    (hf : ∀ x ∈ l, ∀ W, Ext w W → Calls Tryz.prog fid (#[.agg #[.int .i64 x.kind, .int .i64 x.station, .int .i64 x.catalog, .int .i64 x.tick, .int .i64 x.dx, .int .i64 x.dy, .int .i64 x.err, .int .i64 x.lo, .int .i64 x.hi]] ++ cap) W fun e w' => e = .returned (.bool (p x)) ∧ Ext W w') :
    Calls Tryz.prog 173 #[.slice A n c, .func (.func fid) #[] cap] w fun e w' => e = .returned (.int .i64 (idxFrom p l 0)) ∧ Ext w w' := by
  have hn := hl.le
  have Hf := Lib.hid hf
  clear hf
  go_enter Tryz.func173, Tryz.ntmps173
  go_wp2_with fail
  go_loopw [8] (fun i wr => ∃ k : Nat, k ≤ n ∧ i = .int .i64 k ∧ Hid (idxFrom p (l.drop k) k = idxFrom p l 0) ∧ Ext w wr) (fun i _ => n - (intOf i).toNat)
  case atStart => exact ⟨0, Nat.zero_le _, rfl, rfl, Ext.refl _⟩
  case round =>
    obtain ⟨k, hk, rfl, HI, hb⟩ := hrel
    by_cases hlt : k < n
    · obtain ⟨b, off, x, rfl, HD, hxm, hx⟩ := hl.one hlt
      obtain ⟨hx0, hx1, hx2, hx3, hx4, hx5, hx6, hx7, hx8⟩ := sightAt.ext hb hx
      go_wp2_with fail
      refine (Hf.out x hxm _ hb).mono ?_
      rintro e w1 ⟨rfl, h1⟩
      cases hp : p x
      · go_wp2_with fail
        go_roundw
        case rel => exact ⟨k + 1, by omega, by go_num, by have := HI.out; rw [HD.out] at this; simpa [Hid, idxFrom, hp] using this, hb.trans h1⟩
        case measure => simp [intOf]; omega
      · go_wp2_with fail
        go_ret
        exact ⟨ret_i (by have := HI.out; rw [HD.out] at this; simpa [idxFrom, hp] using this), hb.trans h1⟩
    · have : k = l.length := by have := hl.len; omega
      subst this
      go_wp2_with fail
      go_ret
      refine ⟨ret_i ?_, hb⟩
      have := HI.out
      simpa [idxFrom] using this


end Go.Proofs.YtfniicgoeljmdaaGreat

namespace Go.Proofs.YtfniicgoeljmdaaGreat
open Go.RowKit

def trkAt (w : World) (p : List Sight) (b o : Nat) : Prop := ∃ A n c, w.cell? ⟨b, o, none⟩ = some (.slice A n c) ∧ Sights w A n p
abbrev Trks (w : World) (A : Option Addr) (n : Nat) (l : List (List Sight)) : Prop := SlR 1 (trkAt w) A n l
theorem trkAt.ext {w w' : World} (e : Ext w w') {p : List Sight} {b o : Nat} (h : trkAt w p b o) : trkAt w' p b o := by
  obtain ⟨A, n, c, h1, h2⟩ := h
  exact ⟨A, n, c, e.cell h1, Sights.ext e h2⟩
theorem Trks.ext {w w' : World} (e : Ext w w') {A n l} (h : Trks w A n l) : Trks w' A n l := SlR.mono h fun _ _ _ _ => trkAt.ext e
end Go.Proofs.YtfniicgoeljmdaaGreat
