/- A set that sights of a tick filter: the program. No condition. -/
import Derived.Test.YtfniicgoeljmdaaGreatDelete
import Derived.Test.YtfniicgoeljmdaaGreatExcludes3
import Derived.Test.YtfniicgoeljmdaaGreatOpen2
import Derived.Test.YtfniicgoeljmdaaGreatHullSet
namespace Go.Proofs.YtfniicgoeljmdaaGreat
open Go.RowKit

set_option maxHeartbeats 400000 in
theorem hasSight_c (A : Option Addr) (n c : Nat) (l : List Sight) (fid : Nat) (cap : Array Value) (p : Sight → Bool) (w : World) (hl : Sights w A n l)
    (hcall : ∀ (xs : Array Value) (W : World), (callFunc fid xs).run Tryz.prog W = .ok (.enter fid xs) W)
    (hf : ∀ x ∈ l, ∀ W, Ext w W → Calls Tryz.prog fid (#[.agg #[.int .i64 x.kind, .int .i64 x.station, .int .i64 x.catalog, .int .i64 x.tick, .int .i64 x.dx, .int .i64 x.dy, .int .i64 x.err, .int .i64 x.lo, .int .i64 x.hi]] ++ cap) W fun e w' => e = .returned (.bool (p x)) ∧ Ext W w') :
    Calls Tryz.prog 139 #[.slice A n c, .func (.func fid) #[] cap] w fun e w' => e = .returned (.bool (hasP p l)) ∧ Ext w w' := by
  have Hf := Lib.hid hf
  clear hf
  go_enter Tryz.func139, Tryz.ntmps139
  go_wp2_with fail
  refine (idxSight_c A n c l fid cap p w hl hcall Hf.out).mono ?_
  rintro e w1 ⟨rfl, h1⟩
  go_wp2_with fail
  go_ret
  exact ⟨ret_b (by simp [hasP]), h1⟩
/-- A sight of the tick that excludes the box. -/
def hitB (s : Sky) (tick : Int) (b : Bx) (x : Sight) : Bool := decide (x.tick = tick) && exclAll s x b.x.lo b.x.hi b.y.lo b.y.hi
def filtB (s : Sky) (tick : Int) (l : List Sight) (b : Bx) : Bool := l.any (hitB s tick b)
def filtL (s : Sky) (tick : Int) (sg : List Sight) (l : List Bx) : List Bx := l.filter fun b => !filtB s tick sg b
set_option maxRecDepth 4000 in
set_option maxHeartbeats 1000000 in
theorem fil11_c (A1 : Option Addr) (n1 c1 : Nat) (home : Int) (A2 : Option Addr) (n2 c2 : Nat) (A3 : Option Addr) (n3 c3 : Nat) (s : Sky) (tick : Int) (gt gs gb : Nat) (tt : TypeId) (b : Bx) (x : Sight) (w : World) (ht : Blk w gt tt #[.int .i64 tick]) (hg : Blk w gs 53 #[.slice A1 n1 c1, .int .i64 home, .slice A2 n2 c2, .slice A3 n3 c3])
    (hb : Blk w gb 38 #[.int .i64 b.x.lo, .int .i64 b.x.hi, .int .i64 b.y.lo, .int .i64 b.y.hi, .int .i64 b.u.lo, .int .i64 b.u.hi, .int .i64 b.v.lo, .int .i64 b.v.hi]) (hs : IsSky w A1 n1 home A2 n2 A3 n3 s) :
    Calls Tryz.prog 140 (#[.agg #[.int .i64 x.kind, .int .i64 x.station, .int .i64 x.catalog, .int .i64 x.tick, .int .i64 x.dx, .int .i64 x.dy, .int .i64 x.err, .int .i64 x.lo, .int .i64 x.hi]] ++ #[.pointer (some ⟨gt, 0, none⟩), .pointer (some ⟨gs, 0, none⟩), .pointer (some ⟨gb, 0, none⟩)]) w fun e w' => e = .returned (.bool (hitB s tick b x)) ∧ Ext w w' := by
  have HX := Lib.hid fun W (hW : Ext w W) => Excludes_c A1 n1 c1 home A2 n2 c2 A3 n3 c3 s x.kind x.station x.catalog x.tick x.dx x.dy x.err x.lo x.hi b.x.lo b.x.hi b.y.lo b.y.hi W (hs.ext hW)
  change Hid (∀ W, Ext w W → Calls _ _ _ W fun e w' => e = .returned (.bool (exclAll s x b.x.lo b.x.hi b.y.lo b.y.hi)) ∧ _) at HX
  unfold hitB
  generalize exclAll s x b.x.lo b.x.hi b.y.lo b.y.hi = R at *
  obtain ⟨kind, st, cat, tk, dx, dy, er, lo, hi⟩ := x
  obtain ⟨⟨xl, xh⟩, ⟨yl, yh⟩, ⟨ul, uh⟩, vl, vh⟩ := b
  dsimp only at *
  clear hs
  have c_ht := ht.cell; have f_ht := ht.frozen; have l_ht := ht.lt; have c_hg := hg.cell; have f_hg := hg.frozen; have l_hg := hg.lt; have c_hb := hb.cell; have f_hb := hb.frozen; have l_hb := hb.lt
  clear ht hg hb
  show Calls _ _ #[_, _, _, _] _ _
  by_cases hq : tk = tick
  · subst hq
    go_enter Tryz.func140, Tryz.ntmps140
    go_wp2_with fail
    refine (HX.out _ (by (repeat' (first | exact Ext.refl _ | assumption | apply Ext.alloc | apply Ext.drew | refine Ext.set ?_ (by dsimp only; omega) _ | refine Ext.trans ?_ (by assumption))))).mono ?_
    rintro e w1 ⟨rfl, h1⟩
    go_wp2_with fail
    go_ret
    exact ⟨ret_b (by simp), by (repeat' (first | exact Ext.refl _ | assumption | apply Ext.alloc | apply Ext.drew | refine Ext.set ?_ (by dsimp only; omega) _ | refine Ext.trans ?_ (by assumption)))⟩
  · have hd : decide (tk = tick) = false := by simpa using hq
    go_enter Tryz.func140, Tryz.ntmps140
    go_wp2_with fail
    go_ret
    exact ⟨ret_b (by simp [hq]), by (repeat' (first | exact Ext.refl _ | assumption | apply Ext.alloc | apply Ext.drew | refine Ext.set ?_ (by dsimp only; omega) _ | refine Ext.trans ?_ (by assumption)))⟩
set_option maxRecDepth 4000 in
set_option maxHeartbeats 1000000 in
theorem fil1_c (A1 : Option Addr) (n1 c1 : Nat) (home : Int) (A2 : Option Addr) (n2 c2 : Nat) (A3 : Option Addr) (n3 c3 : Nat) (s : Sky) (tick : Int) (gl gt gs : Nat) (tt tl : TypeId) (b : Bx) (A : Option Addr) (n c : Nat) (l : List Sight) (w : World) (ht : Blk w gt tt #[.int .i64 tick]) (hg : Blk w gs 53 #[.slice A1 n1 c1, .int .i64 home, .slice A2 n2 c2, .slice A3 n3 c3])
    (hgl : Blk w gl tl #[.slice A n c]) (hs : IsSky w A1 n1 home A2 n2 A3 n3 s) (hl : Sights w A n l) :
    Calls Tryz.prog 138 (#[.agg #[.int .i64 b.x.lo, .int .i64 b.x.hi, .int .i64 b.y.lo, .int .i64 b.y.hi, .int .i64 b.u.lo, .int .i64 b.u.hi, .int .i64 b.v.lo, .int .i64 b.v.hi]] ++ #[.pointer (some ⟨gl, 0, none⟩), .pointer (some ⟨gt, 0, none⟩), .pointer (some ⟨gs, 0, none⟩)]) w fun e w' => e = .returned (.bool (filtB s tick l b)) ∧ Ext w w' := by
  have HF := Lib.hid fun W (hW : Ext w W) (gb : Nat) (hb : Blk W gb 38 #[.int .i64 b.x.lo, .int .i64 b.x.hi, .int .i64 b.y.lo, .int .i64 b.y.hi, .int .i64 b.u.lo, .int .i64 b.u.hi, .int .i64 b.v.lo, .int .i64 b.v.hi]) =>
    hasSight_c A n c l 140 #[.pointer (some ⟨gt, 0, none⟩), .pointer (some ⟨gs, 0, none⟩), .pointer (some ⟨gb, 0, none⟩)] (hitB s tick b) W (Sights.ext hW hl) Tryz.call140
      (fun x _ W2 hW2 => fil11_c A1 n1 c1 home A2 n2 c2 A3 n3 c3 s tick gt gs gb tt b x W2 (ht.ext (hW.trans hW2)) (hg.ext (hW.trans hW2)) (hb.ext hW2) (hs.ext (hW.trans hW2)))
  have hany : hasP (hitB s tick b) l = filtB s tick l b := hasP_eq _ _
  rw [hany] at HF
  generalize filtB s tick l b = R at *
  obtain ⟨⟨xl, xh⟩, ⟨yl, yh⟩, ⟨ul, uh⟩, vl, vh⟩ := b
  dsimp only at *
  clear hs hl hany
  have c_ht := ht.cell; have f_ht := ht.frozen; have l_ht := ht.lt; have c_hg := hg.cell; have f_hg := hg.frozen; have l_hg := hg.lt; have c_hgl := hgl.cell; have f_hgl := hgl.frozen; have l_hgl := hgl.lt
  clear ht hg hgl
  show Calls _ _ #[_, _, _, _] _ _
  go_enter Tryz.func138, Tryz.ntmps138
  go_wp2_with fail
  refine (HF.out _ (by (repeat' (first | exact Ext.refl _ | assumption | apply Ext.alloc | apply Ext.drew | refine Ext.set ?_ (by dsimp only; omega) _ | refine Ext.trans ?_ (by assumption)))) _ (Blk.newAt rfl)).mono ?_
  rintro e w1 ⟨rfl, h1⟩
  go_wp2_with fail
  go_ret
  exact ⟨rfl, by (repeat' (first | exact Ext.refl _ | assumption | apply Ext.alloc | apply Ext.drew | refine Ext.set ?_ (by dsimp only; omega) _ | refine Ext.trans ?_ (by assumption)))⟩
set_option maxRecDepth 4000 in
set_option maxHeartbeats 1000000 in
theorem oFilterL_c (A1 : Option Addr) (n1 c1 : Nat) (home : Int) (A2 : Option Addr) (n2 c2 : Nat) (A3 : Option Addr) (n3 c3 : Nat) (s : Sky) (tick : Int) (A : Option Addr) (n c : Nat) (l : List Bx) (B : Option Addr) (m d : Nat) (r : List Sight) (w : World) (hs : IsSky w A1 n1 home A2 n2 A3 n3 s) (hl : Bxs w A n l) (hr : Sights w B m r) (hn : n ≤ 2000) :
    Calls Tryz.prog 105 #[.agg #[.slice A1 n1 c1, .int .i64 home, .slice A2 n2 c2, .slice A3 n3 c3], .int .i64 tick, .slice A n c, .slice B m d] w fun e w' => ∃ v, e = .returned v ∧ OwnBxs w.heap.size w' v (filtL s tick r l) ∧ Ext w w' := by
  have HC := Lib.hid fun W (hW : Ext w W) => CloneBox_c A n c l W (Bxs.ext hW hl) (by omega)
  have hln : l.length ≤ 2000 := by rw [← hl.len]; exact hn
  have HF := Lib.hid fun W0 (hW0 : Ext w W0) (gl gt gs : Nat) (ht : Blk W0 gt 2 #[.int .i64 tick]) (hg : Blk W0 gs 53 #[.slice A1 n1 c1, .int .i64 home, .slice A2 n2 c2, .slice A3 n3 c3]) (hgl : Blk W0 gl 70 #[.slice B m d]) v W (hW : Ext W0 W) (ho : OwnBxs W0.heap.size W v l) =>
    Delete_c W0.heap.size v l 138 #[.pointer (some ⟨gl, 0, none⟩), .pointer (some ⟨gt, 0, none⟩), .pointer (some ⟨gs, 0, none⟩)] (filtB s tick r) W0 W ho (Nat.le_refl _) hW hln Tryz.call138
      (fun x _ W2 hW2 => fil1_c A1 n1 c1 home A2 n2 c2 A3 n3 c3 s tick gl gt gs 2 70 x B m d r W2 (ht.ext hW2) (hg.ext hW2) (hgl.ext hW2) (hs.ext (hW0.trans hW2)) (Sights.ext (hW0.trans hW2) hr))
  change Hid (∀ W0, _ → ∀ gl gt gs, _ → _ → _ → ∀ v W, _ → _ → Calls _ _ _ _ fun e w' => ∃ v', e = .returned v' ∧ OwnBxs _ w' v' (filtL s tick r l) ∧ Ext W0 w') at HF
  generalize filtL s tick r l = R at *
  clear hs hl hr
  go_enter Tryz.func105, Tryz.ntmps105
  go_wp2_with fail
  refine (HC.out _ (by (repeat' (first | exact Ext.refl _ | assumption | apply Ext.alloc | apply Ext.drew | refine Ext.set ?_ (by dsimp only; omega) _ | refine Ext.trans ?_ (by assumption))))).mono ?_
  rintro e W1 ⟨v1, rfl, ho1, h1⟩
  have HF1 := Lib.hid (HF.out _ (by (repeat' (first | exact Ext.refl _ | assumption | apply Ext.alloc | apply Ext.drew | refine Ext.set ?_ (by dsimp only; omega) _ | refine Ext.trans ?_ (by assumption)))) (w.heap.size + 1 + 1) (w.heap.size + 1) w.heap.size ((Blk.newAt (by simp)).alloc _) (((Blk.newAt rfl).alloc _).alloc _) (Blk.newAt (by simp)) v1 W1 h1 ho1)
  clear h1 ho1 HF HC
  go_wp2_with fail
  refine HF1.out.mono ?_
  rintro e W2 ⟨v2, rfl, ho2, h2⟩
  have E2 : Ext w W2 := Ext.trans (by (repeat' (first | exact Ext.refl _ | assumption | apply Ext.alloc | apply Ext.drew | refine Ext.set ?_ (by dsimp only; omega) _ | refine Ext.trans ?_ (by assumption)))) h2
  have HO := Lib.hid (ho2.mono (base' := w.heap.size) (by simp; omega))
  clear ho2 h2
  go_wp2_with fail
  go_ret
  exact ⟨_, rfl, HO.out, E2⟩
/-- The error of sights in a valid sky. -/
def sgsFrom (s : Sky) : List Sight → Int
  | [] => 0
  | x :: r => if sightErr2 s x = 0 then sgsFrom s r else sightErr2 s x
def sgsErr (s : Sky) (l : List Sight) : Int := if 64 < l.length then 8 else sgsFrom s l
set_option maxRecDepth 4000 in
set_option maxHeartbeats 1000000 in
theorem oCheckSights_c (A1 : Option Addr) (n1 c1 : Nat) (home : Int) (A2 : Option Addr) (n2 c2 : Nat) (A3 : Option Addr) (n3 c3 : Nat) (s : Sky) (A : Option Addr) (n c : Nat) (l : List Sight) (w : World) (hs : IsSky w A1 n1 home A2 n2 A3 n3 s) (hl : Sights w A n l) :
    Calls Tryz.prog 104 #[.agg #[.slice A1 n1 c1, .int .i64 home, .slice A2 n2 c2, .slice A3 n3 c3], .slice A n c] w fun e w' => e = .returned (.int .i64 (sgsErr s l)) ∧ Ext w w' := by
  have hn := hl.le
  have HS := Lib.hid fun (x : Sight) W (hW : Ext w W) => CheckSight_c A1 n1 c1 home A2 n2 c2 A3 n3 c3 s x.kind x.station x.catalog x.tick x.dx x.dy x.err x.lo x.hi W (hs.ext hW)
  have HLn := Lib.hid hl.len
  have HL := Lib.hid fun W (hW : Ext w W) => Sights.ext hW hl
  obtain ⟨T, hT⟩ : ∃ T, sgsErr s l = T := ⟨_, rfl⟩
  rw [hT]
  unfold sgsErr at hT
  have HG := Lib.hid hT
  clear hT
  clear hs hl
  by_cases h64 : 64 < n
  · have HT : Hid (T = 8) := by have := HG.out; rw [if_pos (by rw [← HLn.out]; exact h64)] at this; exact this.symm
    go_enter Tryz.func104, Tryz.ntmps104
    go_wp2_with fail
    go_ret
    exact ⟨ret_i (by rw [HT.out]), by (repeat' (first | exact Ext.refl _ | assumption | apply Ext.alloc | apply Ext.drew | refine Ext.set ?_ (by dsimp only; omega) _ | refine Ext.trans ?_ (by assumption)))⟩
  · have HT : Hid (T = sgsFrom s l) := by have := HG.out; rw [if_neg (by rw [← HLn.out]; exact h64)] at this; exact this.symm
    clear HG
    go_enter Tryz.func104, Tryz.ntmps104
    go_wp2_with fail
    go_loopw [13] (fun i wr => ∃ k : Nat, k ≤ n ∧ i = .int .i64 k ∧ Hid (sgsFrom s (l.drop k) = T) ∧ Ext (w.alloc (.cells #[.slice A1 n1 c1, .int .i64 home, .slice A2 n2 c2, .slice A3 n3 c3] 53)) wr) (fun i _ => n - (intOf i).toNat)
    case atStart => exact ⟨0, Nat.zero_le _, rfl, Lib.hid HT.out.symm, Ext.refl _⟩
    case round =>
      obtain ⟨k, hk, rfl, HI, hb⟩ := hrel
      obtain ⟨hcb, hfb, hzb⟩ := bcell hb
      simp only [World.size_alloc] at hzb
      have hz1 : w.heap.size < wr.heap.size := by omega
      have E : Ext w wr := (Ext.alloc0 _ _).trans hb
      by_cases hlt : k < n
      · obtain ⟨b, off, x, rfl, HD, hxm, hx⟩ := (HL.out wr E).one hlt
        have HX := Lib.hid fun W (hW : Ext wr W) => HS.out x W (E.trans hW)
        change Hid (∀ W, Ext wr W → Calls _ _ _ W fun e w' => e = .returned (.int .i64 (sightErr2 s x)) ∧ _) at HX
        obtain ⟨hx0, hx1, hx2, hx3, hx4, hx5, hx6, hx7, hx8⟩ := hx
        have hi := HI.out
        rw [HD.out, sgsFrom] at hi
        clear HI HD hxm
        generalize sightErr2 s x = M at *
        obtain ⟨kind, st, cat, tk, dx, dy, er, lo, hi'⟩ := x
        dsimp only at hx0 hx1 hx2 hx3 hx4 hx5 hx6 hx7 hx8 HX
        have hbl : b < wr.heap.size := World.block_lt_of_cell? wr _ hx0
        by_cases h0 : M = 0
        · subst h0
          rw [if_pos rfl] at hi
          have Hi := Lib.hid hi
          clear hi
          go_wp2_with fail
          refine (HX.out _ (by (repeat' (first | exact Ext.refl _ | assumption | apply Ext.alloc | apply Ext.drew | refine Ext.set ?_ (by dsimp only; omega) _ | refine Ext.trans ?_ (by assumption))))).mono ?_
          rintro e w1 ⟨rfl, h1⟩
          have E1 : Ext wr w1 := Ext.trans (by (repeat' (first | exact Ext.refl _ | assumption | apply Ext.alloc | apply Ext.drew | refine Ext.set ?_ (by dsimp only; omega) _ | refine Ext.trans ?_ (by assumption)))) h1
          clear h1
          go_wp2_with fail
          go_roundw
          case rel => exact ⟨k + 1, by omega, by go_num, Hi, hb.trans E1⟩
          case measure => simp [intOf]; omega
        · rw [if_neg h0] at hi
          have Hi := Lib.hid hi
          clear hi
          go_wp2_with fail
          refine (HX.out _ (by (repeat' (first | exact Ext.refl _ | assumption | apply Ext.alloc | apply Ext.drew | refine Ext.set ?_ (by dsimp only; omega) _ | refine Ext.trans ?_ (by assumption))))).mono ?_
          rintro e w1 ⟨rfl, h1⟩
          have E1 : Ext wr w1 := Ext.trans (by (repeat' (first | exact Ext.refl _ | assumption | apply Ext.alloc | apply Ext.drew | refine Ext.set ?_ (by dsimp only; omega) _ | refine Ext.trans ?_ (by assumption)))) h1
          clear h1
          go_wp2_with fail
          go_ret
          exact ⟨ret_i Hi.out, E.trans E1⟩
      · have hkn : k = n := by omega
        subst hkn
        have hi := HI.out
        rw [HLn.out, List.drop_length] at hi
        have Hi : Hid (0 = T) := hi
        clear hi HI
        go_wp2_with fail
        go_ret
        exact ⟨ret_i Hi.out, E⟩
end Go.Proofs.YtfniicgoeljmdaaGreat
