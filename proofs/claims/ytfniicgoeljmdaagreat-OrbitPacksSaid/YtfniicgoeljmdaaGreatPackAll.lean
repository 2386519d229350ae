/- Sets that are packed: plain law, and the reference. No condition. slices.Chunk at boxes, two by two. No condition. Neighbours put together: what the program's pairs give. No condition. Sets that are packed: the program. No condition. -/
import Derived.Test.YtfniicgoeljmdaaGreatProp
import Derived.Test.YtfniicgoeljmdaaGreatRefHull
import Derived.Test.YtfniicgoeljmdaaGreatRefBox
import Derived.Test.YtfniicgoeljmdaaGreatForcePulls
import Derived.Test.YtfniicgoeljmdaaGreatOwnBoxes
import Derived.Test.YtfniicgoeljmdaaGreatSplit
import Derived.Test.YtfniicgoeljmdaaGreatUpdate
import Derived.Test.YtfniicgoeljmdaaGreatFlatTwo
namespace Go.Proofs.YtfniicgoeljmdaaGreat
open Go.RowKit

def pairL : List Bx → List Bx
  | [] => []
  | [x] => [x]
  | x :: y :: r => hullB x y :: pairL r
theorem pair_len : ∀ L : List Bx, 2 * (pairL L).length ≤ L.length + 1
  | [] => by simp [pairL]
  | [x] => by simp [pairL]
  | x :: y :: r => by have := pair_len r; simp only [pairL, List.length_cons]; omega
def packF (n : Nat) : Nat → List Bx → List Bx
  | 0, L => L
  | k + 1, L => if n < L.length then packF n k (pairL L) else L
def packErr (L : List Bx) (n : Int) : Int := if setErr L ≠ 0 then setErr L else if n < 1 ∨ 512 < n then 2 else 0
def packL (L : List Bx) (n : Int) : List Bx := if packErr L n = 0 then packF n.toNat L.length L else []
section
variable {P : Program}
theorem exec_append {w : World} {o : Oper} {a : Act} (s x : Operand) (t : TypeId)
    (ho : o.op = .call { callee := .builtin .append, args := #[s, x], argTypes := #[t, t] })
    (base : Nat) (e : TypeId) (i : TypeInfo) (z : Value) (size bytes : Nat) (ht : P.underlying t = some (.slice e)) (hi : P.info? e = some i) (hz : i.zero = some z)
    (hsize : i.size = size) (hby : i.bytes = bytes) (hzs : z.cells.size = size) (hsz : 0 < size)
    (v : Value) (n : Nat) (xs : List Value) (hs : a.eval s = v) (hown : w.ownsRow base e size v n xs)
    (ad : Addr) (m c : Nat) (news : List Value) (hx : a.eval x = .slice (some ad) m c) (hl : news.length = m * size) (hnews : ∀ j u, news[j]? = some u → w.cell? (ad.add j) = some u) (h1 : ∀ u ∈ news, u.oneCell' = true)
    (h63 : n + m ≤ maxLen) (hbytes : (n + m) * bytes ≤ 140737488355328) (hbase : base ≤ w.heap.size) :
    ∃ v' w', (execOp a.eval o).run P w = .ok (.value v') w' ∧ w'.ownsRow base e size v' (n + m) (xs ++ news) ∧ w.grownBy w' v.ownBlock := by
  obtain ⟨v', w', hrun, h2, h3, _⟩ := run_append_own (P := P) (w := w) base t o.type e i z size bytes ht hi hz hsize hby hzs hsz v n xs hown ad m c news hl hnews h1 h63 hbytes hbase
  exact ⟨v', w', by simp [execOp, ho, resolve, invoke, builtin, hs, hx, hrun, Result.andThen], h2, h3⟩
theorem tw_append {Q : Exit → Act → World → Prop} {S F : World → Prop} {F' : Value → World → Prop} {o : Oper} {T : List Oper} {a : Act} (s x : Operand) (t : TypeId)
    (ho : o.op = .call { callee := .builtin .append, args := #[s, x], argTypes := #[t, t] }) (hg : o.guard = none)
    (base : Nat) (e : TypeId) (i : TypeInfo) (z : Value) (size bytes : Nat) (ht : P.underlying t = some (.slice e)) (hi : P.info? e = some i) (hz : i.zero = some z)
    (hsize : i.size = size) (hby : i.bytes = bytes) (hzs : z.cells.size = size) (hsz : 0 < size)
    (v : Value) (n : Nat) (xs : List Value) (hs : a.eval s = v)
    (ad : Addr) (m c : Nat) (news : List Value) (hx : a.eval x = .slice (some ad) m c) (hl : news.length = m * size) (h1 : ∀ u ∈ news, u.oneCell' = true)
    (h63 : n + m ≤ maxLen) (hbytes : (n + m) * bytes ≤ 140737488355328)
    (hF : ∀ w, F w → w.ownsRow base e size v n xs ∧ (∀ j u, news[j]? = some u → w.cell? (ad.add j) = some u) ∧ base ≤ w.heap.size)
    (hF' : ∀ v', Stable (F' v')) (hS : ∀ v' w, F' v' w → S w)
    (hpost : ∀ w v' w', F w → w'.ownsRow base e size v' (n + m) (xs ++ news) → w.grownBy w' v.ownBlock → F' v' w')
    (h : ∀ v', TW P S Q T (a.put o.dst v') (F' v')) : TW P S Q (o :: T) a F :=
  ⟨hg, fun w hw => by
    obtain ⟨f1, f2, f3⟩ := hF w hw
    obtain ⟨v', w', hrun, h2, h3⟩ := exec_append s x t ho base e i z size bytes ht hi hz hsize hby hzs hsz v n xs hs f1 ad m c news hx hl f2 h1 h63 hbytes f3
    exact ⟨v', w', F' v', .inl hrun, hF' v', hS v', hpost w v' w' hw h2 h3, h v'⟩⟩
theorem tw_new {Q : Exit → Act → World → Prop} {S F : World → Prop} {o : Oper} {T : List Oper} {a : Act} {m : Nat} {t : TypeId} {cs : Array Value} (hg : o.guard = none) (hst : Stable F) (hFS : ∀ w, F w → S w)
    (hrun : ∀ w, (execOp a.eval o).run P w = .ok (.value (.slice (some ⟨w.heap.size, 0, none⟩) m m)) (w.alloc (.cells cs t)))
    (h : ∀ b, TW P S Q T (a.put o.dst (.slice (some ⟨b, 0, none⟩) m m)) fun w => F w ∧ Blk w b t cs) : TW P S Q (o :: T) a F :=
  ⟨hg, fun w hw => ⟨_, _, _, .inl (hrun w), hst.and (Stable.blk _ _ _), fun _ h => hFS _ h.1, ⟨hst _ _ hw (Ext.alloc0 _ _), Blk.new w t cs⟩, h _⟩⟩
theorem tw_same {Q : Exit → Act → World → Prop} {S F : World → Prop} {o : Oper} {T : List Oper} {a : Act} {v : Value} (hg : o.guard = none) (hst : Stable F) (hFS : ∀ w, F w → S w)
    (hrun : ∀ w, (execOp a.eval o).run P w = .ok (.value v) w) (h : TW P S Q T (a.put o.dst v) F) : TW P S Q (o :: T) a F :=
  ⟨hg, fun w hw => ⟨_, _, _, .inl (hrun w), hst, hFS, hw, h⟩⟩
end
def lenOf : Value → Nat
  | .slice _ n _ => n
  | _ => 0
set_option maxRecDepth 20000 in
set_option maxHeartbeats 4000000 in
theorem rPack_yes (A : Option Addr) (m c : Nat) (L : List Bx) (N : Nat) (w : World) (hl : Bxs w A m L) (h0 : setErr L = 0) (hN : 1 ≤ N ∧ N ≤ 512) :
    Calls Tryz.prog 57 #[.slice A m c, .int .i64 (N : Int)] w fun e w' => ∃ v, e = .returned (.tuple #[v, .int .i64 0]) ∧ OwnBxs w.heap.size w' v (packF N L.length L) ∧ Ext w w' := by
  have h512 : L.length ≤ 512 := by
    unfold setErr at h0
    split at h0
    · cases h0
    · omega
  have hln := hl.len
  have HC := Lib.hid fun W (hW : Ext w W) => rCheckSet_c A m c L W (Bxs.ext hW hl)
  rw [h0] at HC
  have HL := Lib.hid fun W (hW : Ext w W) => Bxs.ext hW hl
  have HLn := Lib.hid hln
  have HB := Lib.hid fun a b W => rBoth_c a b W
  obtain ⟨ic, hic, hc0, hc1, hc2⟩ := info_parts info_box
  obtain ⟨T, hT⟩ : ∃ T, packF N L.length L = T := ⟨_, rfl⟩
  rw [hT]
  have HT := Lib.hid hT
  have hm5 : m ≤ 512 := by omega
  clear hT h0 hl hln
  go_enter Tryz.func57, Tryz.ntmps57
  go_wp2_with fail
  refine (HC.out _ ext_by).mono ?_
  rintro e w1 ⟨rfl, E1⟩
  have hz1 := E1.size
  clear HC
  go_wp2_with (at_builtin; go_loud (refine wpList_append_sl rfl (.tmp 21) (.tmp 22) 39 rfl w.heap.size 38 ic _ 8 64 Tryz.underlying39 hic hc0 hc1 hc2 rfl (by decide) _ 0 [] rfl (own_made rfl (by omega)) A m c (L.flatMap bxC) rfl (by rw [flat_len box_len, ← HLn.out]) (sl_news box_len (box_news _) (HL.out _ ext_by)) (flat_one box_one _) (by unfold maxLen; omega) (by omega) (by simp only [World.size_alloc]; omega) ?_))
  intro v2 w2 ho2 hg2 _
  have e2 : Ext w1 w2 := grown_ext (Ext.alloc0 _ _) hg2 (by intro j hj; simp [Value.ownBlock] at hj; omega)
  have HO2 : Hid (OwnBxs w.heap.size w2 v2 L) := by
    unfold Hid OwnBxs
    rw [← HLn.out]
    simpa using ho2
  have E2 := E1.trans e2
  clear e2 ho2 hg2 E1 hz1 HL
  go_wp2_with fail
  go_loopw [7] (fun o wr => ∃ (f : Nat) (C : List Bx), C.length ≤ f ∧ C.length ≤ 512 ∧ Hid (packF N f C = T) ∧ Hid (OwnBxs w.heap.size wr o C) ∧ lenOf o = C.length ∧ Ext w wr) (fun o _ => lenOf o)
  case atStart =>
    obtain ⟨A2, c2, rfl, _, _⟩ := HO2.out.cap
    exact ⟨L.length, L, Nat.le_refl _, h512, HT, HO2, rfl, E2⟩
  case round =>
    clear HO2 E2 HT h512 HLn hm5
    obtain ⟨f, C, hf, hC, HI, HO, hle, E⟩ := hrel
    obtain ⟨A', c', rfl, hs', _⟩ := HO.out.cap
    obtain ⟨q, hq⟩ : ∃ q, C.length = q := ⟨_, rfl⟩
    rw [hq] at hf hC hle hs' ⊢
    have HQ := Lib.hid hq
    have HS' := Lib.hid fun W (hW : Ext wr W) => Bxs.ext hW hs'
    clear hs' hq hle
    by_cases hlt : N < q
    · obtain ⟨f', rfl⟩ : ∃ f', f = f' + 1 := ⟨f - 1, by omega⟩
      have hi := HI.out
      rw [packF, HQ.out, if_pos hlt] at hi
      have hPl := pair_len C
      rw [HQ.out] at hPl
      obtain ⟨P, hP⟩ : ∃ P, pairL C = P := ⟨_, rfl⟩
      rw [hP] at hi hPl
      have HP := Lib.hid hP
      have Hi := Lib.hid hi
      have hz := E.size
      clear hi HI hP HO
      obtain ⟨wo, rfl⟩ : ∃ wo : World, wo = wr := ⟨_, rfl⟩
      go_wp2_with fail
      go_loopw [8, 9] (fun o i wr => ∃ (k : Nat) (acc : List Bx), k ≤ q + 1 ∧ i = .int .i64 k ∧ Hid (acc ++ pairL (C.drop k) = P) ∧ Hid (OwnBxs wo.heap.size wr o acc) ∧ Ext wo wr) (fun _ i _ => q + 1 - (intOf i).toNat)
      case atStart => exact ⟨0, [], Nat.zero_le _, rfl, Lib.hid (by simpa using HP.out), OwnBxs.nil _ _, Ext.refl _⟩
      case round =>
        clear HP
        obtain ⟨k, acc, hk, rfl, HJ, HO, hb⟩ := hrel
        by_cases hkq : k < q
        · obtain ⟨b, off, x, hB, HD, _, hx9⟩ := (HS'.out wo (Ext.refl _)).one hkq
          have hx := bxAt.ext hb hx9
          obtain ⟨gx0, gx1, gx2, gx3, gx4, gx5, gx6, gx7⟩ := hx9
          subst hB
          have hj := HJ.out
          have hlen := congrArg List.length hj
          rw [List.length_append] at hlen
          obtain ⟨hx0, hx1, hx2, hx3, hx4, hx5, hx6, hx7⟩ := hx
          have hbl : b < wr.heap.size := World.block_lt_of_cell? wr _ hx0
          by_cases hk2 : k + 1 < q
          · obtain ⟨b', off', y, hB2, HD2, _, hy⟩ := (HS'.out wo (Ext.refl _)).one hk2
            injection hB2 with hB2
            injection hB2 with eb eo _
            subst eb eo
            rw [HD.out, HD2.out, pairL] at hj
            have Hj := Lib.hid hj
            obtain ⟨hy0, hy1, hy2, hy3, hy4, hy5, hy6, hy7⟩ := hy
            have HBB := Lib.hid fun W => HB.out x y W
            generalize hullB x y = z at *
            clear HJ HD HD2 hj
            obtain ⟨⟨xl, xh⟩, ⟨yl, yh⟩, ⟨ul, uh⟩, vl, vh⟩ := x
            obtain ⟨⟨wxl, wxh⟩, ⟨wyl, wyh⟩, ⟨wul, wuh⟩, wvl, wvh⟩ := y
            obtain ⟨⟨txl, txh⟩, ⟨tyl, tyh⟩, ⟨tul, tuh⟩, tvl, tvh⟩ := z
            dsimp only [bxV] at gx0 gx1 gx2 gx3 gx4 gx5 gx6 gx7 hx0 hx1 hx2 hx3 hx4 hx5 hx6 hx7 hy0 hy1 hy2 hy3 hy4 hy5 hy6 hy7 HBB
            go_wp2_with fail
            have hbo : b < wo.heap.size := World.block_lt_of_cell? wo _ gx0
            refine wp_region_tail 11 (Ext wo) (fun w => Ext wo w ∧ OwnBxs wo.heap.size w (_ : Value) acc) ((Stable.ext _).and (fun _ _ h e => OwnBxs.ext h e)) (fun _ h => h.1) ⟨hb.drew, OwnBxs.ext HO.out (Ext.drew (Ext.refl _))⟩ (by kernel_rfl) (by kernel_rfl) ?_
            simp only [List.take_succ_cons, List.take_zero, List.drop_succ_cons, List.drop_zero]
            clear hx0 hx1 hx2 hx3 hx4 hx5 hx6 hx7
            (repeat' (first | (refine bl_off (by rfl) ?_; simp only [putX]) | (apply bl_op; rfl; (intro w1 h1; obtain ⟨hc, hf, hz⟩ := bcell h1; go_simp; (try go_bits); (first | exact ⟨rfl, Ext.refl _⟩ | (apply gives_call; go_at_call 93; exact HBB.out _) | (go_invoke; go_simp; apply gives_call; go_at_call 93; exact HBB.out _))); simp only [putX]) | (refine bl_split rfl rfl (fun hx => ?_) (fun hx => ?_) <;> simp only [hx])))
            refine bl_nil ?_
            refine tw_new (m := 1) (t := 38) (cs := #[.int .i64 txl, .int .i64 txh, .int .i64 tyl, .int .i64 tyh, .int .i64 tul, .int .i64 tuh, .int .i64 tvl, .int .i64 tvh]) rfl ((Stable.ext _).and (fun _ _ h e => OwnBxs.ext h e)) (fun _ h => h.1) (fun w => by go_simp) (fun b9 => ?_)
            simp only [putX]
            refine tw_append (F' := fun v' w => Ext wo w ∧ OwnBxs wo.heap.size w v' (acc ++ [⟨⟨txl, txh⟩, ⟨tyl, tyh⟩, ⟨tul, tuh⟩, tvl, tvh⟩])) (.tmp 39) (.tmp 50) 39 rfl rfl wo.heap.size 38 ic _ 8 64 Tryz.underlying39 hic hc0 hc1 hc2 rfl (by decide) _ acc.length (acc.flatMap bxC) rfl ⟨b9, 0, none⟩ 1 1 [.int .i64 txl, .int .i64 txh, .int .i64 tyl, .int .i64 tyh, .int .i64 tul, .int .i64 tuh, .int .i64 tvl, .int .i64 tvh] rfl rfl (by simp [Value.oneCell']) (by unfold maxLen; omega) (by omega)
              (fun w hw => ⟨hw.1.2, fun j u hj => by rw [add_none, hw.2.cell, ← hj]; simp, hw.1.1.size⟩) (fun v' => (Stable.ext _).and (fun _ _ h e => OwnBxs.ext h e)) (fun _ _ h => h.1)
              (fun w v' w' hw h2 h3 => (own_app (w0 := wo) hw.1.2 hw.1.1 (Nat.le_refl _) (show 1 = [(⟨⟨txl, txh⟩, ⟨tyl, tyh⟩, ⟨tul, tuh⟩, tvl, tvh⟩ : Bx)].length from rfl) h2 h3).symm) (fun v' => ?_)
            simp only [putX]
            refine tw_same (v := v') rfl ((Stable.ext _).and (fun _ _ h e => OwnBxs.ext h e)) (fun _ h => h.1) (fun w => by go_simp) ?_
            simp only [putX]
            refine tw_nil ?_
            rintro w6 ⟨he, ho⟩
            have HO6 := Lib.hid ho
            have Hj2 : Hid ((acc ++ [⟨⟨txl, txh⟩, ⟨tyl, tyh⟩, ⟨tul, tuh⟩, tvl, tvh⟩]) ++ pairL (C.drop (k + 2)) = P) := by have := Hj.out; rw [List.append_assoc]; exact this
            clear ho HO Hj hbo gx0 gx1 gx2 gx3 gx4 gx5 gx6 gx7 hy0 hy1 hy2 hy3 hy4 hy5 hy6 hy7 HBB hb
            go_wp2_with fail
            go_roundw
            case rel => exact ⟨k + 2, _, by omega, by go_num, Hj2, HO6, he⟩
            case measure => simp [intOf]; omega
          · have hkq2 : k + 1 = q := by omega
            have hd0 : C.drop (k + 1) = [] := List.drop_eq_nil_of_le (by rw [HQ.out]; omega)
            have hd2 : C.drop (k + 2) = [] := List.drop_eq_nil_of_le (by rw [HQ.out]; omega)
            rw [HD.out, hd0, pairL] at hj
            have Hj : Hid (acc ++ ([x] ++ pairL (C.drop (k + 2))) = P) := Lib.hid (by rw [hd2, pairL, List.append_nil]; exact hj)
            have HO3 := HO
            have Eb := hb
            have hz3 := hb.size
            clear HJ HD hj hd0 hd2 HO hb hkq2
            obtain ⟨⟨xl, xh⟩, ⟨yl, yh⟩, ⟨ul, uh⟩, vl, vh⟩ := x
            dsimp only [bxV] at hx0 hx1 hx2 hx3 hx4 hx5 hx6 hx7
            go_wp2_with (at_builtin; go_loud (refine wpList_append_sl rfl (.tmp 52) (.tmp 57) 39 rfl wo.heap.size 38 ic _ 8 64 Tryz.underlying39 hic hc0 hc1 hc2 rfl (by decide) _ acc.length (acc.flatMap bxC) rfl (own_ext_keep HO3.out ext_by) (some ⟨_, 0, none⟩) 1 1 [.int .i64 xl, .int .i64 xh, .int .i64 yl, .int .i64 yh, .int .i64 ul, .int .i64 uh, .int .i64 vl, .int .i64 vh] rfl rfl (.inr ⟨_, rfl, new_cells (by simp)⟩) (by simp [Value.oneCell']) (by unfold maxLen; omega) (by omega) (by simp only [World.size_alloc]; omega) ?_))
            intro v' w6 ho6 hg6 _
            have hx5 : Ext wr (wr.alloc (.cells #[.int .i64 xl, .int .i64 xh, .int .i64 yl, .int .i64 yh, .int .i64 ul, .int .i64 uh, .int .i64 vl, .int .i64 vh] 38)) := ext_by
            obtain ⟨ho, he⟩ := own_app (w0 := wo) (OwnBxs.ext HO3.out hx5) (Eb.trans hx5) (Nat.le_refl _) (show 1 = [(⟨⟨xl, xh⟩, ⟨yl, yh⟩, ⟨ul, uh⟩, vl, vh⟩ : Bx)].length from rfl) ho6 hg6
            have HO6 := Lib.hid ho
            have Hj2 : Hid ((acc ++ [⟨⟨xl, xh⟩, ⟨yl, yh⟩, ⟨ul, uh⟩, vl, vh⟩]) ++ pairL (C.drop (k + 2)) = P) := by have := Hj.out; rw [List.append_assoc]; exact this
            clear ho ho6 hg6 HO3 hx5 Hj
            go_wp2_with fail
            go_roundw
            case rel => exact ⟨k + 2, _, by omega, by go_num, Hj2, HO6, he⟩
            case measure => simp [intOf]; omega
        · have hd0 : C.drop k = [] := List.drop_eq_nil_of_le (by rw [HQ.out]; omega)
          have hj := HJ.out
          rw [hd0, pairL, List.append_nil] at hj
          subst hj
          have HO3 := Lib.hid (HO.out.mono (base' := w.heap.size) hz)
          have Eb := E.trans hb
          clear HJ hd0 HO hb
          go_wp2_with fail
          go_roundw
          case rel =>
            obtain ⟨A5, c5, rfl, _, _⟩ := HO3.out.cap
            exact ⟨f', acc, by omega, by omega, Hi, HO3, rfl, Eb⟩
          case measure =>
            obtain ⟨A5, c5, rfl, _, _⟩ := HO3.out.cap
            simp only [lenOf]; omega
    · have hi := HI.out
      have hi2 : C = T := by
        cases f with
        | zero => exact hi
        | succ f' => rw [packF, HQ.out, if_neg hlt] at hi; exact hi
      subst hi2
      clear HI hi
      go_wp2_with fail
      (try simp only [Exit.inBlock, Exit.then]); apply bodyPost_ret; (focus (simp only [results, Tryz.results57]; go_simp; try rfl)); rfl
      exact ⟨_, rfl, by rw [← HQ.out]; exact HO.out, E⟩
set_option maxRecDepth 4000 in
set_option maxHeartbeats 1000000 in
theorem rPack_no (A : Option Addr) (m c : Nat) (L : List Bx) (n : Int) (w : World) (hl : Bxs w A m L) (h0 : packErr L n ≠ 0) :
    Calls Tryz.prog 57 #[.slice A m c, .int .i64 n] w fun e w' => e = .returned (.tuple #[.slice none 0 0, .int .i64 (packErr L n)]) ∧ Ext w w' := by
  have HC := Lib.hid fun W (hW : Ext w W) => rCheckSet_c A m c L W (Bxs.ext hW hl)
  unfold packErr at h0 ⊢
  generalize setErr L = E at *
  clear hl
  by_cases h1 : E = 0
  · subst h1
    rw [if_neg (by simp)] at h0 ⊢
    have h2 : n < 1 ∨ 512 < n := by
      refine Classical.byContradiction fun h => h0 ?_
      rw [if_neg h]
    rw [if_pos h2]
    clear h0
    rcases (show n < 1 ∨ (¬ n < 1 ∧ 512 < n) by omega) with h3 | ⟨h3, h4⟩
    all_goals clear h2
    all_goals go_enter Tryz.func57, Tryz.ntmps57
    all_goals go_wp2_with fail
    all_goals refine (HC.out _ ext_by).mono ?_
    all_goals rintro e w1 ⟨rfl, h1⟩
    all_goals obtain ⟨hc_w1, hf_w1, hz_w1⟩ := bcell h1; (try simp only [szA] at hz_w1); (try have := wz0 w w1); (try have := wz1 w w1); (try have := wz2 w w1); (try have := wz3 w w1); (try have := wz4 w w1)
    all_goals go_wp2_with fail
    all_goals (try simp only [Exit.inBlock, Exit.then]); apply bodyPost_ret; (focus (simp only [results, Tryz.results57]; go_simp; try rfl)); rfl
    all_goals exact ⟨rfl, ext_by⟩
  · rw [if_pos h1]
    clear h0
    go_enter Tryz.func57, Tryz.ntmps57
    go_wp2_with fail
    refine (HC.out _ ext_by).mono ?_
    rintro e w1 ⟨rfl, h1⟩
    obtain ⟨hc_w1, hf_w1, hz_w1⟩ := bcell h1; (try simp only [szA] at hz_w1); (try have := wz0 w w1); (try have := wz1 w w1); (try have := wz2 w w1); (try have := wz3 w w1); (try have := wz4 w w1)
    go_wp2_with fail
    (try simp only [Exit.inBlock, Exit.then]); apply bodyPost_ret; (focus (simp only [results, Tryz.results57]; go_simp; try rfl)); rfl
    exact ⟨rfl, ext_by⟩
theorem pack_ok {L : List Bx} {n : Int} (h : packErr L n = 0) : setErr L = 0 ∧ 1 ≤ n ∧ n ≤ 512 := by
  unfold packErr at h
  by_cases h1 : setErr L = 0
  · rw [if_neg (by simp [h1])] at h
    refine ⟨h1, ?_⟩
    refine Classical.byContradiction fun h2 => ?_
    rw [if_pos (by omega)] at h
    cases h
  · rw [if_pos h1] at h
    exact absurd h h1
theorem rPack_c (A : Option Addr) (m c : Nat) (L : List Bx) (n : Int) (w : World) (hl : Bxs w A m L) :
    Calls Tryz.prog 57 #[.slice A m c, .int .i64 n] w fun e w' => ∃ v, e = .returned (.tuple #[v, .int .i64 (packErr L n)]) ∧ OwnBxs w.heap.size w' v (packL L n) ∧ Ext w w' := by
  unfold packL
  by_cases h : packErr L n = 0
  · rw [if_pos h, h]
    obtain ⟨h1, h2, h3⟩ := pack_ok h
    have := rPack_yes A m c L n.toNat w hl h1 (by omega)
    rw [show ((n.toNat : Nat) : Int) = n by omega] at this
    exact this
  · rw [if_neg h]
    refine (rPack_no A m c L n w hl h).mono ?_
    rintro e w' ⟨he, h1⟩
    exact ⟨_, he, OwnBxs.nil _ _, h1⟩
end Go.Proofs.YtfniicgoeljmdaaGreat

namespace Go.Proofs.YtfniicgoeljmdaaGreat
open Go.RowKit Go.Shelf
attribute [local go_sem] Oper.semAt_some

set_option maxHeartbeats 1000000 in
theorem chunk_c (A : Option Addr) (n c : Nat) (w : World) :
    Calls Tryz.prog 115 #[.slice A n c, .int .i64 2] w fun e w' => ∃ b, b = w.heap.size ∧ e = .returned (.func (.func 149) #[] #[.pointer (some ⟨b, 0, none⟩), .pointer (some ⟨b + 1, 0, none⟩)]) ∧ Ext w w' ∧
      Blk w' b 39 #[.slice A n c] ∧ Blk w' (b + 1) 3 #[.int .i64 2] := by
  go_enter Tryz.func115, Tryz.ntmps115
  go_wp2_with fail
  go_ret
  exact ⟨_, rfl, rfl, by exact ext_by, (Blk.newAt rfl).alloc _, Blk.newAt (by simp)⟩
def chunkE (b off n : Nat) (k : Nat) : Array Value := #[.slice (some ⟨b, off + 2 * k * 8, none⟩) (min 2 (n - 2 * k)) (min 2 (n - 2 * k))]
set_option maxRecDepth 100000 in
set_option maxHeartbeats 4000000 in
theorem chunk_iter (g1 g2 b off n c nb : Nat) (w : World) (hn : n ≤ 1000) (hc : n ≤ c) (hB1 : Blk w g1 39 #[.slice (some ⟨b, off, none⟩) n c]) (hB2 : Blk w g2 3 #[.int .i64 2]) :
    IterOf Tryz.prog 149 #[.pointer (some ⟨g1, 0, none⟩), .pointer (some ⟨g2, 0, none⟩)] (chunkE b off n) nb [g1, g2] (List.range ((n + 1) / 2)) w := by
  intro m lr J Jx W hW hJ hJx hY h0
  have hY' : ∀ (pre : List { x // x ∈ List.range ((n + 1) / 2) }) (x : { x // x ∈ List.range ((n + 1) / 2) }) W1, J pre W1 → pre.length < (n + 1) / 2 → YieldAt Fence.wide (m - 1) Tryz.prog lr #[.slice (some ⟨b, off + 2 * x.1 * 8, none⟩) (min 2 (n - 2 * x.1)) (min 2 (n - 2 * x.1))] W1 fun e W' =>
      (e = .returned (.bool true) ∧ J (pre ++ [x]) W' ∧ KpX nb [g1, g2] W1 W') ∨ (e = .returned (.bool false) ∧ Jx (pre ++ [x]) W') := fun pre x W1 h1 h2 => hY pre x W1 h1 (by simpa using h2)
  have HY := Lib.hid hY'
  have HB1 := Lib.hid (hB1.ext hW)
  have HB2 := Lib.hid (hB2.ext hW)
  have H0 := Lib.hid h0
  have HJ := Lib.hid hJ
  clear hY hY' hB1 hB2 h0 hW hJ
  refine callsIn_of_wp Tryz.func149 rfl trivial ?_
  simp only [Tryz.ntmps149, List.size_toArray, List.length_cons, List.length_nil, Nat.reduceAdd, Nat.reduceSub, Array.replicate_succ, Array.replicate_zero, List.push_toArray, List.append_toArray, List.nil_append, List.cons_append]
  have c1' := HB1.out.cell
  have l1' := HB1.out.lt
  gi_wp2
  gi_loopw [4] (fun i wr => ∃ (q k : Nat) (pre : List { x // x ∈ List.range ((n + 1) / 2) }), k ≤ (n + 1) / 2 ∧ i = .int .i64 (q : Int) ∧ Hid (q = 2 * k) ∧ Hid (pre.map Subtype.val = List.range k) ∧ Hid (J pre wr) ∧ Hid (Blk wr g1 39 #[.slice (some ⟨b, off, none⟩) n c]) ∧ Hid (Blk wr g2 3 #[.int .i64 2])) (fun i _ => n + 1 - (intOf i).toNat)
  case atStart => exact ⟨0, 0, [], Nat.zero_le _, rfl, rfl, rfl, H0.out, HB1.out, HB2.out⟩
  case round =>
    clear c1' l1' HB1 HB2 H0
    obtain ⟨q, k, pre, hk, rfl, HQ, HP, HJ1, HB1, HB2⟩ := hrel
    have c1' := HB1.out.cell
    have l1' := HB1.out.lt
    have c2' := HB2.out.cell
    have l2' := HB2.out.lt
    by_cases hlt : q < n
    · have hmem : k ∈ List.range ((n + 1) / 2) := by rw [List.mem_range]; have := HQ.out; omega
      obtain ⟨ic, hic, hc0, hc1, hc2⟩ := info_parts info_box
      have q1 : (0 : Int) ≤ (q : Int) := by omega
      have q2 : (q : Int) ≤ (n : Int) := by omega
      have q3 : (n : Int) ≤ (c : Int) := by omega
      have q4 : ¬ c = q := by omega
      have q5 : q ≤ c := by omega
      by_cases h2 : q + 2 ≤ n
      · have hmin : min 2 (n - q) = 2 := by omega
        have HM := Lib.hid hmin
        clear hmin
        have hmi : min (2 : Int) ((n - q : Nat) : Int) = 2 := by omega
        have q6 : (q : Int) + 2 ≤ (c : Int) := by omega
        gi_wp2
        refine wpIn_region_forced plain_wide 6 (Ext _) (Stable.ext _) (Ext.drew (Ext.refl _)) (by kernel_rfl) (by kernel_rfl) (by kernel_rfl) ?_
        simp only [List.take_succ_cons, List.take_zero, List.drop_succ_cons, List.drop_zero]
        (repeat' (first | (refine bl_off (by rfl) ?_; simp only [putX]) | (apply bl_op; rfl; (intro w1 h1; obtain ⟨hc, hf, hz⟩ := bcell h1; go_simp; (try go_bits); (first | exact ⟨rfl, Ext.refl _⟩)); simp only [putX]) | (refine bl_split rfl rfl (fun hx => ?_) (fun hx => ?_) <;> simp only [hx])))
        refine bl_nil ?_
        intro w3 h3
        have D1 := HB1.out.ext h3
        have D2 := HB2.out.ext h3
        have d1 := D1.cell
        have dl1 := D1.lt
        clear c1' l1' c2' l2'
        have hyy := HY.out pre ⟨k, hmem⟩ w3 (HJ.out pre wr w3 none HJ1.out (ext_grown h3) (by intro r hr; cases hr)) (by have h5 := congrArg List.length HP.out; rw [List.length_map, List.length_range] at h5; have := List.mem_range.1 hmem; omega)
        dsimp only at hyy
        rw [← HQ.out, HM.out] at hyy
        obtain ⟨fn, tmps, assign, body, hy, hR⟩ := hyy
        gi_wp2
        refine ⟨fun h => (by cases h), hR.mono ?_⟩
        rintro e9 W3 (⟨rfl, hJ3, hk3⟩ | ⟨rfl, hJx3⟩)
        · have HB1 := Lib.hid (hk3.2 g1 (by simp) _ _ D1)
          have HB2 := Lib.hid (hk3.2 g2 (by simp) _ _ D2)
          have HJ3 := Lib.hid hJ3
          have c2' := HB2.out.cell
          have l2' := HB2.out.lt
          clear hk3 hJ3 D1 D2 d1 dl1 hy hR
          gi_wp2
          go_roundw
          case rel => exact ⟨q + 2, k + 1, pre ++ [⟨k, hmem⟩], by have := List.mem_range.1 hmem; omega, by go_num, Lib.hid (by have := HQ.out; omega), Lib.hid (by rw [List.map_append, HP.out, List.range_succ]; rfl), HJ3, HB1, HB2⟩
          case measure => simp [intOf]; omega
        · gi_wp2
          refine bodyPost_ret (results_none rfl _ _ _) rfl ?_
          refine ⟨⟨_, rfl⟩, .inr ⟨pre ++ [⟨k, hmem⟩], ?_, hJx3⟩⟩
          rw [List.map_append, HP.out]
          have h6 : List.range k ++ [k] = List.range (k + 1) := List.range_succ.symm
          have h7 : k + 1 ≤ (n + 1) / 2 := by have := List.mem_range.1 hmem; omega
          rw [show List.map Subtype.val [(⟨k, hmem⟩ : { x // x ∈ List.range ((n + 1) / 2) })] = [k] from rfl, h6]
          rw [show List.range (k + 1) = (List.range ((n + 1) / 2)).take (k + 1) by rw [List.take_range, Nat.min_eq_left h7]]
          exact List.take_prefix _ _
      · have hmin : min 2 (n - q) = 1 := by omega
        have HM := Lib.hid hmin
        clear hmin
        have hmi : min (2 : Int) ((n - q : Nat) : Int) = 1 := by omega
        have q6 : (q : Int) + 1 ≤ (c : Int) := by omega
        gi_wp2
        refine wpIn_region_forced plain_wide 6 (Ext _) (Stable.ext _) (Ext.drew (Ext.refl _)) (by kernel_rfl) (by kernel_rfl) (by kernel_rfl) ?_
        simp only [List.take_succ_cons, List.take_zero, List.drop_succ_cons, List.drop_zero]
        (repeat' (first | (refine bl_off (by rfl) ?_; simp only [putX]) | (apply bl_op; rfl; (intro w1 h1; obtain ⟨hc, hf, hz⟩ := bcell h1; go_simp; (try go_bits); (first | exact ⟨rfl, Ext.refl _⟩)); simp only [putX]) | (refine bl_split rfl rfl (fun hx => ?_) (fun hx => ?_) <;> simp only [hx])))
        refine bl_nil ?_
        intro w3 h3
        have D1 := HB1.out.ext h3
        have D2 := HB2.out.ext h3
        have d1 := D1.cell
        have dl1 := D1.lt
        clear c1' l1' c2' l2'
        have hyy := HY.out pre ⟨k, hmem⟩ w3 (HJ.out pre wr w3 none HJ1.out (ext_grown h3) (by intro r hr; cases hr)) (by have h5 := congrArg List.length HP.out; rw [List.length_map, List.length_range] at h5; have := List.mem_range.1 hmem; omega)
        dsimp only at hyy
        rw [← HQ.out, HM.out] at hyy
        obtain ⟨fn, tmps, assign, body, hy, hR⟩ := hyy
        gi_wp2
        refine ⟨fun h => (by cases h), hR.mono ?_⟩
        rintro e9 W3 (⟨rfl, hJ3, hk3⟩ | ⟨rfl, hJx3⟩)
        · have HB1 := Lib.hid (hk3.2 g1 (by simp) _ _ D1)
          have HB2 := Lib.hid (hk3.2 g2 (by simp) _ _ D2)
          have HJ3 := Lib.hid hJ3
          have c2' := HB2.out.cell
          have l2' := HB2.out.lt
          clear hk3 hJ3 D1 D2 d1 dl1 hy hR
          gi_wp2
          go_roundw
          case rel => exact ⟨q + 2, k + 1, pre ++ [⟨k, hmem⟩], by have := List.mem_range.1 hmem; omega, by go_num, Lib.hid (by have := HQ.out; omega), Lib.hid (by rw [List.map_append, HP.out, List.range_succ]; rfl), HJ3, HB1, HB2⟩
          case measure => simp [intOf]; omega
        · gi_wp2
          refine bodyPost_ret (results_none rfl _ _ _) rfl ?_
          refine ⟨⟨_, rfl⟩, .inr ⟨pre ++ [⟨k, hmem⟩], ?_, hJx3⟩⟩
          rw [List.map_append, HP.out]
          have h6 : List.range k ++ [k] = List.range (k + 1) := List.range_succ.symm
          have h7 : k + 1 ≤ (n + 1) / 2 := by have := List.mem_range.1 hmem; omega
          rw [show List.map Subtype.val [(⟨k, hmem⟩ : { x // x ∈ List.range ((n + 1) / 2) })] = [k] from rfl, h6]
          rw [show List.range (k + 1) = (List.range ((n + 1) / 2)).take (k + 1) by rw [List.take_range, Nat.min_eq_left h7]]
          exact List.take_prefix _ _
    · have hkn : k = (n + 1) / 2 := by have := HQ.out; omega
      gi_wp2
      go_end0
      exact ⟨⟨_, rfl⟩, .inl ⟨pre, by rw [HP.out, hkn], HJ1.out⟩⟩
end Go.Proofs.YtfniicgoeljmdaaGreat

namespace Go.Proofs.YtfniicgoeljmdaaGreat
open Go.RowKit

theorem hull_valid {x y : Bx} (hx : bxErr x = 0) (hy : bxErr y = 0) : bxErr (hullB x y) = 0 := by
  rw [bxErr_ok, fullB_iff, stErr_ok, stErr_ok] at *
  simp only [lowS, highS, hullB, hullS] at *
  omega
theorem set_valid {L : List Bx} : setErr L = 0 ↔ L.length ≤ 512 ∧ ∀ b ∈ L, bxErr b = 0 := by
  have h : boxesErr L = 0 ↔ ∀ b ∈ L, bxErr b = 0 := by
    induction L with
    | nil => simp [boxesErr]
    | cons b r ih =>
      rw [boxesErr]
      by_cases h : bxErr b = 0
      · rw [if_pos h, ih]; simp [h]
      · rw [if_neg h]; simp [h]
  unfold setErr
  by_cases h5 : 512 < L.length
  · rw [if_pos h5]; exact ⟨fun h => (by cases h), fun q => by omega⟩
  · rw [if_neg h5, h]; exact ⟨fun q => ⟨by omega, q⟩, fun q => q.2⟩
def nthP (C : List Bx) (k : Nat) : List Bx := (C.drop (2 * k)).take 2
theorem nthP_zero (x y : Bx) (r : List Bx) : nthP (x :: y :: r) 0 = [x, y] := rfl
theorem hull_one {x : Bx} (h : bxErr x = 0) : hullOk [x] = true ∧ hullM [x] = x := by
  have h1 : hullOk [x] = true := by
    have := (set_valid (L := [x])).2 ⟨by simp, by simpa using h⟩
    unfold hullOk; rw [this]; simp
  exact ⟨h1, by rw [hullM, if_pos h1]; rfl⟩
theorem hull_two {x y : Bx} (h : bxErr x = 0) (h' : bxErr y = 0) : hullOk [x, y] = true ∧ hullM [x, y] = hullB x y := by
  have h1 : hullOk [x, y] = true := by
    have := (set_valid (L := [x, y])).2 ⟨by simp, by simpa using ⟨h, h'⟩⟩
    unfold hullOk; rw [this]; simp
  exact ⟨h1, by rw [hullM, if_pos h1]; rfl⟩
theorem pair_range : ∀ C : List Bx, (∀ b ∈ C, bxErr b = 0) → pairL C = (List.range ((C.length + 1) / 2)).map fun k => hullM (nthP C k)
  | [], _ => rfl
  | [x], h => by
    have h1 := (hull_one (h x (by simp))).2
    rw [show ([x].length + 1) / 2 = 1 by simp, show List.range 1 = [0] by decide, List.map_cons, List.map_nil, show nthP [x] 0 = [x] from rfl, h1, pairL]
  | x :: y :: r, h => by
    have ih := pair_range r (fun b hb => h b (by simp [hb]))
    have hl : ((x :: y :: r).length + 1) / 2 = (r.length + 1) / 2 + 1 := by simp only [List.length_cons]; omega
    rw [hl, List.range_succ_eq_map, List.map_cons, List.map_map, nthP_zero, (hull_two (h x (by simp)) (h y (by simp))).2, pairL, ih]
    rfl
theorem pair_valid : ∀ C : List Bx, (∀ b ∈ C, bxErr b = 0) → ∀ b ∈ pairL C, bxErr b = 0
  | [], _ => by simp [pairL]
  | [x], h => h
  | x :: y :: r, h => by
    intro b hb
    rcases List.mem_cons.1 hb with rfl | hb
    · exact hull_valid (h x (by simp)) (h y (by simp))
    · exact pair_valid r (fun b hb => h b (by simp [hb])) b hb
end Go.Proofs.YtfniicgoeljmdaaGreat

namespace Go.Proofs.YtfniicgoeljmdaaGreat
open Go.RowKit Go.Shelf
attribute [local go_sem] Oper.semAt_some

theorem marks_out {P : Program} {F : Fence} {n : Nat} {fn : Func} {tmps : Array Value} {R : Ending → World → Prop} (G : World → Prop) (K : Nat → Prop)
    (hG : ∀ w D, K D → G w → w.heap[D]? = some (.deferred (some [])) → G (w.putObj D (.deferred none)))
    (hR : ∀ w, G w → LeavesIn F n P fn tmps R [] .returning w) :
    ∀ (ds : List Nat) (w : World), ds.Nodup → (∀ D ∈ ds, K D ∧ w.heap[D]? = some (.deferred (some []))) → G w → LeavesInM F n P fn tmps R (ds.map fun D => { target := .collected D, args := #[] }) .returning w
  | [], w, _, _, hw => hR w hw
  | D :: ds, w, hn, hd, hw => by
    obtain ⟨h0, h1⟩ := hd D (by simp)
    obtain ⟨h2, h3⟩ := List.nodup_cons.1 hn
    refine ⟨by simp, .inl ⟨D, _, rfl, run_takeDeferred h1, marks_out G K hG hR ds _ h3 (fun D' hD' => ?_) (hG _ _ h0 hw h1)⟩⟩
    have hne : D' ≠ D := fun e => h2 (e ▸ hD')
    exact ⟨(hd D' (by simp [hD'])).1, (World.putObj_heap_other hne).trans (hd D' (by simp [hD'])).2⟩

set_option maxRecDepth 4000 in
set_option maxHeartbeats 1000000 in
theorem oPack_no (A : Option Addr) (m c : Nat) (L : List Bx) (n : Int) (w : World) (hl : Bxs w A m L) (h0 : packErr L n ≠ 0) :
    Calls Tryz.prog 56 #[.slice A m c, .int .i64 n] w fun e w' => e = .returned (.tuple #[.slice none 0 0, .int .i64 (packErr L n)]) ∧ Ext w w' := by
  have HC := Lib.hid fun W (hW : Ext w W) => oCheckSet_c A m c L W (Bxs.ext hW hl)
  have HW := Lib.hid fun W => oWithin_c n 1 512 W
  have hwi := within_iff n 1 512
  unfold packErr at h0 ⊢
  generalize setErr L = E at *
  clear hl
  by_cases h1 : E = 0
  · subst h1
    rw [if_neg (by simp)] at h0 ⊢
    have h2 : n < 1 ∨ 512 < n := by
      refine Classical.byContradiction fun h => h0 ?_
      rw [if_neg h]
    rw [if_pos h2]
    have h3 : within n 1 512 = false := by
      cases hk : within n 1 512
      · rfl
      · have := hwi.1 hk; omega
    rw [h3] at HW
    clear h0 h2 hwi h3
    go_enter Tryz.func56, Tryz.ntmps56
    go_wp2_with fail
    refine (HC.out _ ext_by).mono ?_
    rintro e w1 ⟨rfl, h1⟩
    obtain ⟨hc_w1, hf_w1, hz_w1⟩ := bcell h1; (try simp only [szA] at hz_w1); (try have := wz0 w w1); (try have := wz1 w w1); (try have := wz2 w w1); (try have := wz3 w w1); (try have := wz4 w w1)
    go_wp2_with fail
    refine (HW.out _).mono ?_
    rintro e w2 ⟨rfl, h2⟩
    obtain ⟨hc_w2, hf_w2, hz_w2⟩ := bcell h2; (try simp only [szA] at hz_w2); (try have := wz0 w w2); (try have := wz1 w w2); (try have := wz2 w w2); (try have := wz3 w w2); (try have := wz4 w w2)
    go_wp2_with fail
    (try simp only [Exit.inBlock, Exit.then]); apply bodyPost_ret; (focus (simp only [results, Tryz.results56]; go_simp; try rfl)); rfl
    exact ⟨rfl, ext_by⟩
  · rw [if_pos h1]
    clear h0 hwi HW
    go_enter Tryz.func56, Tryz.ntmps56
    go_wp2_with fail
    refine (HC.out _ ext_by).mono ?_
    rintro e w1 ⟨rfl, h1⟩
    obtain ⟨hc_w1, hf_w1, hz_w1⟩ := bcell h1; (try simp only [szA] at hz_w1); (try have := wz0 w w1); (try have := wz1 w w1); (try have := wz2 w w1); (try have := wz3 w w1); (try have := wz4 w w1)
    go_wp2_with fail
    (try simp only [Exit.inBlock, Exit.then]); apply bodyPost_ret; (focus (simp only [results, Tryz.results56]; go_simp; try rfl)); rfl
    exact ⟨rfl, ext_by⟩
def markD (D : Nat) : Deferred := { target := .collected D, args := #[] }
theorem SlR.part {α : Type} {sz : Nat} {R : α → Nat → Nat → Prop} {b off n : Nat} {l : List α} (h : SlR sz R (some ⟨b, off, none⟩) n l) (k m : Nat) (hk : k + m ≤ n) : SlR sz R (some ⟨b, off + k * sz, none⟩) m ((l.drop k).take m) := by
  have h1 := h.len
  have h2 := h.le
  refine ⟨by rw [List.length_take, List.length_drop]; omega, by omega, ?_⟩
  by_cases h0 : m = 0
  · exact .inl h0
  · obtain ⟨b', off', hA, hc⟩ := h.at_ (by omega)
    injection hA with hA
    injection hA with e1 e2 _
    subst e1 e2
    refine .inr ⟨b, off + k * sz, rfl, fun j hj => ?_⟩
    rw [List.length_take, List.length_drop] at hj
    have := hc (k + j) (by omega)
    rw [Nat.add_mul, ← Nat.add_assoc] at this
    simpa using this
structure PkI (N : Nat) (T : List Bx) (w : World) (v : Value) (f : Nat) (C : List Bx) (ds : List Nat) (W : World) : Prop where
  lf : C.length ≤ f
  lm : C.length ≤ 512
  ok : Hid (∀ b ∈ C, bxErr b = 0)
  eq : Hid (packF N f C = T)
  own : Hid (OwnBxs w.heap.size W v C)
  ext : Hid (Ext w W)
  nd : Hid (ds.Nodup)
  dm : Hid (∀ D ∈ ds, w.heap.size ≤ D ∧ W.heap[D]? = some (.deferred (some [])))
set_option maxRecDepth 100000 in
set_option maxHeartbeats 8000000 in
theorem oPack_yes (A : Option Addr) (m c : Nat) (L : List Bx) (N : Nat) (w : World) (hl : Bxs w A m L) (h0 : setErr L = 0) (hN : 1 ≤ N ∧ N ≤ 512) :
    Calls Tryz.prog 56 #[.slice A m c, .int .i64 (N : Int)] w fun e w' => ∃ v, e = .returned (.tuple #[v, .int .i64 0]) ∧ OwnBxs w.heap.size w' v (packF N L.length L) ∧ Ext w w' := by
  obtain ⟨h512, hval⟩ := set_valid.1 h0
  have hln := hl.len
  have HC := Lib.hid fun W (hW : Ext w W) => oCheckSet_c A m c L W (Bxs.ext hW hl)
  rw [h0] at HC
  have HCL := Lib.hid fun W (hW : Ext w W) => CloneBox_c A m c L W (Bxs.ext hW hl) (by omega)
  have HW := Lib.hid fun W => oWithin_c (N : Int) 1 512 W
  have hwi : within (N : Int) 1 512 = true := (within_iff _ _ _).2 (by omega)
  rw [hwi] at HW
  have HV := Lib.hid hval
  have H5 := Lib.hid h512
  obtain ⟨ic, hic, hc0, hc1, hc2⟩ := info_parts info_box
  obtain ⟨T, hT⟩ : ∃ T, packF N L.length L = T := ⟨_, rfl⟩
  rw [hT]
  have HT := Lib.hid hT
  clear hT h0 hwi hl hval hln h512
  refine (callsIn_wide (n := 6)).1 (callsIn_of_wp_marks Tryz.func56 rfl trivial ?_)
  simp only [Tryz.ntmps56, List.size_toArray, List.length_cons, List.length_nil, Nat.reduceAdd, Nat.reduceSub, Array.replicate_succ, Array.replicate_zero, List.push_toArray, List.append_toArray, List.nil_append, List.cons_append]
  refine wpIn_wide.2 ?_
  go_wp2_with fail
  refine (HC.out _ ext_by).mono ?_
  rintro e w1 ⟨rfl, h1⟩
  obtain ⟨hc_w1, hf_w1, hz_w1⟩ := bcell h1; (try simp only [szA] at hz_w1); (try have := wz0 w w1); (try have := wz1 w w1); (try have := wz2 w w1); (try have := wz3 w w1); (try have := wz4 w w1)
  go_wp2_with fail
  refine (HW.out _).mono ?_
  rintro e w2 ⟨rfl, h2⟩
  obtain ⟨hc_w2, hf_w2, hz_w2⟩ := bcell h2; (try simp only [szA] at hz_w2); (try have := wz0 w w2); (try have := wz1 w w2); (try have := wz2 w w2); (try have := wz3 w w2); (try have := wz4 w w2)
  go_wp2_with fail
  refine (HCL.out _ ext_by).mono ?_
  rintro e w3 ⟨v3, rfl, HO3, h3⟩
  have E3 : Ext w w3 := ext_by
  go_wp2_with fail
  refine wp_loop (fun a' w' => ∃ (u8 u22 u23 u24 u25 u26 u27 u38 : Value) (v : Value) (f : Nat) (C : List Bx) (ds : List Nat), a' = { tmps := #[.slice A m c, .int .i64 (N : Int), undef, undef, .slice none 0 0, .int .i64 0, .int .i64 0, v, u8, undef, undef, undef, .slice A m c, .int .i64 0, .int .i64 0, .bool false, undef, .int .i64 (N : Int), .bool true, .bool false, .slice A m c, v3, u22, u23, u24, u25, u26, u27, undef, undef, undef, undef, undef, undef, undef, undef, undef, undef, u38, undef], defers := ds.map markD } ∧ PkI N T w v f C ds w') (fun a' _ => lenOf (a'.tmps.getD 7 undef)) ?start ?round
  case start =>
    exact ⟨_, _, _, _, _, _, _, _, v3, L.length, L, [], rfl, ⟨Nat.le_refl _, H5.out, HV, HT, Lib.hid (HO3.mono (by omega)), Lib.hid E3, Lib.hid List.nodup_nil, Lib.hid (by intro D hD; cases hD)⟩⟩
  case round =>
    rintro a' wr ⟨u8, u22, u23, u24, u25, u26, u27, u38, v, f, C, ds, rfl, ⟨i1, i2, i3, i4, i5, i6, i7, i8⟩⟩
    obtain ⟨A', c', rfl, hs', hcap⟩ := i5.out.cap
    obtain ⟨q, hq⟩ : ∃ q, C.length = q := ⟨_, rfl⟩
    rw [hq] at i1 i2 hs' hcap ⊢
    have HQ := Lib.hid hq
    have HS' := Lib.hid fun W (hW : Ext wr W) => Bxs.ext hW hs'
    clear hs' hq
    by_cases hlt : N < q
    · have hltz : (N : Int) < q := by omega
      obtain ⟨f', rfl⟩ : ∃ f', f = f' + 1 := ⟨f - 1, by omega⟩
      have hi := i4.out
      rw [packF, HQ.out, if_pos hlt] at hi
      have hpr := pair_range C i3.out
      have hpv := pair_valid C i3.out
      have hpl := pair_len C
      rw [HQ.out] at hpr hpl
      have HI := Lib.hid hi
      have HPR := Lib.hid hpr
      have HPV := Lib.hid hpv
      obtain ⟨b, off, hA, _⟩ := (HS'.out wr (Ext.refl _)).at_ (by rw [HQ.out]; omega)
      subst hA
      clear hi hpr hpv i4
      go_wp2_with fail
      refine (chunk_c _ _ _ _).mono ?_
      rintro e w5 ⟨g, hg, rfl, h5, hB1, hB2⟩
      rw [World.size_alloc] at hg
      subst hg
      have B8 : Blk w5 wr.heap.size 39 #[.slice none 0 0] := (Blk.newAt rfl).ext h5
      have E5 : Ext wr w5 := (Ext.alloc0 _ _).trans h5
      have hz5 := E5.size
      have hl1 := hB1.lt
      have hl2 := hB2.lt
      clear h5
      go_wp2_with fail
      refine wp_range_flat2 (nb := wr.heap.size) (chunk_iter (wr.heap.size + 1) (wr.heap.size + 1 + 1) b off q c' wr.heap.size w5 (by omega) hcap hB1 hB2) rfl Tryz.call149 hz5 (fun _ => rfl)
        (fun pre W => Ext wr W ∧ ∃ v', Blk W wr.heap.size 39 #[v'] ∧ OwnBxs w5.heap.size W v' (pre.map fun k => hullM (nthP C k)))
        (fun c s W => False)
        (fun pre W W' row ⟨he, v', hb, ho⟩ hgr hr => ⟨ownFrom_ext hz5 pre W W' row he hgr hr, v', ownFrom_blk _ _ _ (fun _ => #[v']) pre W W' row hb hgr hr, own_from ho hgr hr⟩)
        (fun c s W W' row hs hgr hr => hs.elim) ⟨E5, _, B8, OwnBxs.nil _ _⟩
        (fun k t => (t.setIfInBounds 28 (.slice (some ⟨b, off + 2 * k * 8, none⟩) (min 2 (q - 2 * k)) (min 2 (q - 2 * k)))).setIfInBounds 9 (.slice (some ⟨b, off + 2 * k * 8, none⟩) (min 2 (q - 2 * k)) (min 2 (q - 2 * k)))) ?assign ?body ?done ?stop
      case assign =>
        intro l n x W K hK
        simp only [List.setIfInBounds_toArray, List.set_cons_zero, List.set_cons_succ] at hK
        simp only [chunkE]
        gi_wp2
        exact hK
      case body =>
        rintro lb nn pre x W hcnt hx hW ⟨he, v', hb8, ho⟩
        simp only [List.setIfInBounds_toArray, List.set_cons_zero, List.set_cons_succ]
        have hxq : x < (q + 1) / 2 := List.mem_range.1 hx
        have hps : Bxs W (some ⟨b, off + 2 * x * 8, none⟩) (min 2 (q - 2 * x)) (nthP C x) := by
          have h := (HS'.out W he).part (2 * x) (min 2 (q - 2 * x)) (by omega)
          have e : (C.drop (2 * x)).take (min 2 (q - 2 * x)) = nthP C x := by
            unfold nthP
            rw [List.take_eq_take_iff, List.length_drop, HQ.out]
            omega
          rw [e] at h
          exact h
        have HH := Lib.hid (oHull_c _ _ (min 2 (q - 2 * x)) _ W hps (Nat.le_refl _))
        obtain ⟨Hx, hHx⟩ : ∃ H, hullM (nthP C x) = H := ⟨_, rfl⟩
        rw [hHx] at HH
        have hlen : (pre.map fun k => hullM (nthP C k)).length ≤ 1000 := by rw [List.length_map]; rw [List.length_range] at hcnt; omega
        obtain ⟨acc, hacc⟩ : ∃ acc, acc = pre.map fun k => hullM (nthP C k) := ⟨_, rfl⟩
        rw [← hacc] at hlen ho
        have HMAP : Hid (acc ++ [Hx] = (pre ++ [x]).map fun k => hullM (nthP C k)) := by rw [List.map_append, hacc, ← hHx]; rfl
        generalize hullOk (nthP C x) = okx at *
        have HO := Lib.hid ho
        have HB8 := Lib.hid hb8
        have HE := Lib.hid he
        obtain ⟨⟨txl, txh⟩, ⟨tyl, tyh⟩, ⟨tul, tuh⟩, tvl, tvh⟩ := Hx
        clear hps hHx hacc hx hxq ho hb8 he hcnt
        gi_wp2
        refine ⟨trivial, ?_⟩
        refine ⟨fun h => (by cases h), (CallsIn.inRound lb (callsIn_wide.2 HH.out)).mono ?_⟩
        rintro e w7 ⟨rfl, h7⟩
        have HO7 := Lib.hid (HO.out.ext h7)
        have HB7 := Lib.hid (HB8.out.ext h7)
        have c7 := HB7.out.cell
        have l7 := HB7.out.lt
        have f7 := HB7.out.frozen
        have hz7 := h7.size
        gi_wp2_with (gi_at_builtin; go_loud (refine wpListIn_append_own _ rfl _ _ 39 rfl w5.heap.size 38 ic _ 8 64 Tryz.underlying39 hic hc0 hc1 hc2 rfl (by decide) _ acc.length (acc.flatMap bxC) rfl (own_ext_keep HO7.out ext_by) ⟨_, 0, none⟩ 1 1 [.int .i64 txl, .int .i64 txh, .int .i64 tyl, .int .i64 tyh, .int .i64 tul, .int .i64 tuh, .int .i64 tvl, .int .i64 tvh] rfl rfl (new_cells (by simp)) (by simp [Value.oneCell']) (by unfold maxLen; omega) (by omega) (by simp only [World.size_alloc]; omega) ?_))
        intro v9 w9 ho9 hg9 _
        obtain ⟨A9, k9, rfl⟩ : ∃ A9 k9, v9 = .slice A9 (acc.length + 1) k9 := by
          obtain ⟨A9, k9, h, _, _⟩ := (show OwnBxs w5.heap.size w9 v9 (acc ++ [(⟨⟨txl, txh⟩, ⟨tyl, tyh⟩, ⟨tul, tuh⟩, tvl, tvh⟩ : Bx)]) from OwnBxs.ofApp rfl ho9).cap
          exact ⟨A9, k9, by rw [h, List.length_append]; rfl⟩
        have hrow : (w7.alloc (.cells #[.int .i64 txl, .int .i64 txh, .int .i64 tyl, .int .i64 tyh, .int .i64 tul, .int .i64 tuh, .int .i64 tvl, .int .i64 tvh] 38)).ownsRow w5.heap.size 38 8 v' acc.length (acc.flatMap bxC) := own_ext_keep HO7.out (Ext.alloc0 _ _)
        obtain ⟨a1, a2, _, a4, a5⟩ := Boxed.appended (n₀ := wr.heap.size) (B := wr.heap.size) (t := 39) (HB7.out.alloc _) (by decide) (own_mono hrow hz5) (by rw [World.size_alloc]; omega) (Nat.le_refl _) (own_mono ho9 hz5) hg9
        have B9 : Blk w9 wr.heap.size 39 #[v'] := a1
        have c9 := B9.cell
        have l9 := B9.lt
        have f9 := B9.frozen
        clear c7 f7 l7
        gi_wp2
        refine ⟨(h7.keepsFrom _).trans (((KeepsOthers.alloc _ _).from _).trans (a4.from _)), ⟨((h7.mono (by omega)).trans ((Ext.alloc0 _ _).mono (by omega))).trans a5, fun g hg t cs hb => ?_⟩, ?_⟩
        · simp only [List.mem_cons, List.not_mem_nil, or_false] at hg
          refine ((((hb.ext h7).alloc _).alloc _).grown hg9 (own_block_ge HO7.out (by omega))).far (by dsimp only; omega) _
        · have EE := own_ext (w0 := wr) (((HE.out.trans h7).alloc _).alloc _) (own_ext_keep hrow (Ext.alloc0 _ _)) hg9 hz5
          have OO : OwnBxs w5.heap.size w9 _ (acc ++ [(⟨⟨txl, txh⟩, ⟨tyl, tyh⟩, ⟨tul, tuh⟩, tvl, tvh⟩ : Bx)]) := OwnBxs.ofApp rfl ho9
          exact ⟨Ext.set EE (Nat.le_refl _) _, _, a2, by rw [← HMAP.out]; exact own_set OO (own_block_ge OO (by dsimp only; omega)) _⟩
      case done =>
        rintro D W hD ⟨he, v', hb8, ho⟩ hK
        rw [← HPR.out] at ho
        obtain ⟨A9, c9', rfl, _, _⟩ := ho.cap
        have HO := Lib.hid ho
        have HE := Lib.hid he
        have c8 := hb8.cell
        have l8 := hb8.lt
        have hzz : w.heap.size ≤ wr.heap.size := i6.out.size
        clear ho he hB1 hB2
        dsimp only
        go_wp2_with fail
        refine ⟨⟨_, _, _, _, _, _, _, _, _, f', pairL C, D :: ds, rfl, ⟨by omega, by omega, HPV, HI, Lib.hid (HO.out.mono (by omega)), Lib.hid (i6.out.trans HE.out), Lib.hid (List.nodup_cons.2 ⟨fun hm => ?_, i7.out⟩), Lib.hid fun D' hD' => ?_⟩⟩, ?_⟩
        · have := (Array.getElem?_eq_some_iff.1 (i8.out D hm).2).1
          omega
        · rcases List.mem_cons.1 hD' with rfl | hD'
          · exact ⟨by omega, hK⟩
          · obtain ⟨d1, d2⟩ := i8.out D' hD'
            exact ⟨d1, (HE.out.block D' (Array.getElem?_eq_some_iff.1 d2).1).trans d2⟩
        · simp [lenOf]; omega
      case stop =>
        rintro D cc pre W hD hpre h hK
        exact h.elim
    · have hi2 : C = T := by
        have hi := i4.out
        cases f with
        | zero => exact hi
        | succ f' => rw [packF, HQ.out, if_neg hlt] at hi; exact hi
      subst hi2
      have hltz : ¬ (N : Int) < q := by omega
      have HG : Hid (OwnBxs w.heap.size wr (.slice A' q c') C ∧ Ext w wr) := Lib.hid ⟨by rw [← HQ.out]; exact i5.out, i6.out⟩
      clear i4
      go_wp2_with fail
      refine marks_out (fun W => OwnBxs w.heap.size W (.slice A' q c') C ∧ Ext w W) (fun D => w.heap.size ≤ D) (fun W D hD hG hK => ⟨own_from (B := 0) hG.1 (grownBy_putObj' _ D (.deferred none)) (fun r e => by cases e; exact ⟨Nat.zero_le _, _, hK, rfl⟩), Ext.put hG.2 hD⟩) (fun W hW => ?_) ds _ i7.out i8.out HG.out
      refine ⟨.tuple #[.slice A' q c', .int .i64 0], ?_, _, rfl, hW.1, hW.2⟩
      simp only [results, Tryz.results56]
      go_simp
theorem oPack_c (A : Option Addr) (m c : Nat) (L : List Bx) (n : Int) (w : World) (hl : Bxs w A m L) :
    Calls Tryz.prog 56 #[.slice A m c, .int .i64 n] w fun e w' => ∃ v, e = .returned (.tuple #[v, .int .i64 (packErr L n)]) ∧ OwnBxs w.heap.size w' v (packL L n) ∧ Ext w w' := by
  unfold packL
  by_cases h : packErr L n = 0
  · rw [if_pos h, h]
    obtain ⟨h1, h2, h3⟩ := pack_ok h
    have := oPack_yes A m c L n.toNat w hl h1 (by omega)
    rw [show ((n.toNat : Nat) : Int) = n by omega] at this
    exact this
  · rw [if_neg h]
    refine (oPack_no A m c L n w hl h).mono ?_
    rintro e w' ⟨he, h1⟩
    exact ⟨_, he, OwnBxs.nil _ _, h1⟩
end Go.Proofs.YtfniicgoeljmdaaGreat
