/- Products and quotients of the ends of spans: the reference. No condition. -/
import Derived.Test.YtiladlangkjoiaaGreatRefWide
import Derived.Test.YtiladlangkjoiaaGreatSame
namespace Go.Proofs.YtiladlangkjoiaaGreat
open Go.RowKit

def opF (over : Bool) : Int → Int → Quo := if over then quotF else mulF
theorem two_at (a b : Int) (ha : isI64 a) (hb : isI64 b) {k : Nat} (h : k < 2) : ∃ x : Int, ((#[.int .i64 a, .int .i64 b] : Array Value)[k]? = some (.int .i64 x)) ∧ Hid ([a, b].drop k = x :: [a, b].drop (k + 1)) ∧ isI64 x ∧ (x = a ∨ x = b) := by
  rcases (show k = 0 ∨ k = 1 by omega) with rfl | rfl
  · exact ⟨a, rfl, rfl, ha, .inl rfl⟩
  · exact ⟨b, rfl, rfl, hb, .inr rfl⟩
set_option maxRecDepth 20000 in
set_option maxHeartbeats 8000000 in
theorem rCorners_c (al ah bl bh : Int) (over : Bool) (w : World) (b1 : isI64 al) (b2 : isI64 ah) (b3 : isI64 bl) (b4 : isI64 bh) (h0 : over = true → bl ≠ 0 ∧ bh ≠ 0) :
    Calls Tryz.prog 287 #[.agg #[.int .i64 al, .int .i64 ah], .agg #[.int .i64 bl, .int .i64 bh], .bool over] w fun e w' => e = .returned (spRV (joinR (cornQ (opF over) ⟨al, ah⟩ ⟨bl, bh⟩) ⟨0, 0⟩ true)) ∧ Ext w w' := by
  obtain ⟨T, hT⟩ : ∃ T, joinR (cornQ (opF over) ⟨al, ah⟩ ⟨bl, bh⟩) ⟨0, 0⟩ true = T := ⟨_, rfl⟩
  rw [hT]
  have hT2 : joinR (([al, ah].drop 0).flatMap fun x => [bl, bh].map (opF over x)) ⟨0, 0⟩ true = T := hT
  have HT := Lib.hid hT2
  have HA := Lib.hid fun k (h : k < 2) => two_at al ah b1 b2 h
  have HB := Lib.hid fun k (h : k < 2) => two_at bl bh b3 b4 h
  have H00 := Lib.hid h0
  clear hT hT2 h0 b1 b2 b3 b4
  go_enter Tryz.func287, Tryz.ntmps287
  go_wp2_with fail
  refine name_world _ ?_
  intro W1 hW1
  obtain ⟨g, hg⟩ : ∃ b, b = w.heap.size := ⟨_, rfl⟩
  have B4 : Blk W1 (g + 1) 26 #[.int .i64 bl, .int .i64 bh] := by rw [hW1, hg]; exact ((((Blk.newAt (by simp)).alloc _).alloc _).alloc _)
  have B6 : Blk W1 (g + 1 + 1) 26 #[.int .i64 0, .int .i64 0] := by rw [hW1, hg]; exact (((Blk.newAt (by simp)).alloc _).alloc _)
  have B8 : Blk W1 (g + 1 + 1 + 1) 26 #[.int .i64 0, .int .i64 0] := by rw [hW1, hg]; exact ((Blk.newAt (by simp)).alloc _)
  have BA : Blk W1 (g + 1 + 1 + 1 + 1) 2 #[.int .i64 al, .int .i64 ah] := by rw [hW1, hg]; exact (Blk.newAt (by simp))
  have E1 : Ext w W1 := by rw [hW1]; exact ext_by
  have og : w.heap.size ≤ g := by omega
  rw [← hg]
  clear hW1 hg
  go_loopw [9, 25] (fun f i wr => ∃ (k : Nat) (fb : Bool) (o : Sp), k ≤ 2 ∧ f = .bool fb ∧ i = .int .i64 k ∧ Hid (joinR (([al, ah].drop k).flatMap fun x => [bl, bh].map (opF over x)) o fb = T) ∧ Hid (Blk wr (g + 1) 26 #[.int .i64 bl, .int .i64 bh]) ∧ Hid (Blk wr (g + 1 + 1) 26 #[.int .i64 0, .int .i64 0]) ∧ Hid (Blk wr (g + 1 + 1 + 1) 26 #[.int .i64 o.lo, .int .i64 o.hi]) ∧ Hid (Blk wr (g + 1 + 1 + 1 + 1) 2 #[.int .i64 al, .int .i64 ah]) ∧ Ext w wr) (fun _ i _ => 2 - (intOf i).toNat)
  case atStart => exact ⟨0, true, ⟨0, 0⟩, Nat.zero_le _, rfl, rfl, HT.out, B4, B6, B8, BA, E1⟩
  case round =>
    clear B4 B6 B8 BA E1
    obtain ⟨k, fb, o, hk, rfl, rfl, HI, B4, B6, B8, BA, hb⟩ := hrel
    by_cases hk2 : k < 2
    · have hkz : (k : Int) < 2 := by omega
      have hkd : decide ((k : Int) < 2) = true := by simp; omega
      obtain ⟨x, hxc, HD, hx, _⟩ := HA.out k hk2
      have cx : wr.cell? ⟨g + 1 + 1 + 1 + 1, k, none⟩ = some (.int .i64 x) := (BA.out.cell k).trans hxc
      have lx := BA.out.lt
      have c4 := B4.out.cell
      have l4 := B4.out.lt
      have hi := HI.out
      rw [HD.out, List.flatMap_cons] at hi
      obtain ⟨RS, hRS⟩ : ∃ RS, (([al, ah].drop (k + 1)).flatMap fun x => [bl, bh].map (opF over x)) = RS := ⟨_, rfl⟩
      rw [hRS] at hi
      have Hi : Hid (joinR (([bl, bh].drop 0).map (opF over x) ++ RS) o fb = T) := hi
      have HRS := Lib.hid hRS
      clear hi HI hRS HD hxc
      obtain ⟨wo, rfl⟩ : ∃ wo : World, wo = wr := ⟨_, rfl⟩
      go_wp2_with fail
      refine name_world _ ?_
      intro W2 hW2
      obtain ⟨q, hq⟩ : ∃ b, b = wo.heap.size := ⟨_, rfl⟩
      have D4 : Blk W2 (g + 1) 26 #[.int .i64 bl, .int .i64 bh] := by rw [hW2]; exact B4.out.alloc _
      have D6 : Blk W2 (g + 1 + 1) 26 #[.int .i64 0, .int .i64 0] := by rw [hW2]; exact B6.out.alloc _
      have D8 : Blk W2 (g + 1 + 1 + 1) 26 #[.int .i64 o.lo, .int .i64 o.hi] := by rw [hW2]; exact B8.out.alloc _
      have DA : Blk W2 (g + 1 + 1 + 1 + 1) 2 #[.int .i64 al, .int .i64 ah] := by rw [hW2]; exact BA.out.alloc _
      have DB : Blk W2 q 2 #[.int .i64 bl, .int .i64 bh] := by rw [hW2]; exact Blk.newAt hq
      have E2 : Ext w W2 := by rw [hW2]; exact hb.alloc _
      have oq : g + 1 + 1 + 1 + 1 < q := by omega
      rw [← hq]
      clear hW2 hq B4 B6 B8 BA hb cx lx c4 l4
      go_loopw [9, 35] (fun f j wr => ∃ (p : Nat) (fb : Bool) (o : Sp), p ≤ 2 ∧ f = .bool fb ∧ j = .int .i64 p ∧ Hid (joinR (([bl, bh].drop p).map (opF over x) ++ RS) o fb = T) ∧ Hid (Blk wr (g + 1) 26 #[.int .i64 bl, .int .i64 bh]) ∧ Hid (Blk wr (g + 1 + 1) 26 #[.int .i64 0, .int .i64 0]) ∧ Hid (Blk wr (g + 1 + 1 + 1) 26 #[.int .i64 o.lo, .int .i64 o.hi]) ∧ Hid (Blk wr (g + 1 + 1 + 1 + 1) 2 #[.int .i64 al, .int .i64 ah]) ∧ Hid (Blk wr q 2 #[.int .i64 bl, .int .i64 bh]) ∧ Ext w wr) (fun _ j _ => 2 - (intOf j).toNat)
      case atStart => exact ⟨0, fb, o, Nat.zero_le _, rfl, rfl, Hi.out, D4, D6, D8, DA, DB, E2⟩
      case round =>
        clear D4 D6 D8 DA DB E2 Hi
        obtain ⟨p, fb, o, hp, rfl, rfl, HI, B4, B6, B8, BA, BB, hb⟩ := hrel
        by_cases hp2 : p < 2
        · have hpz : (p : Int) < 2 := by omega
          have hpd : decide ((p : Int) < 2) = true := by simp; omega
          obtain ⟨y, hyc, HD, hy, hyb⟩ := HB.out p hp2
          have cy : wr.cell? ⟨q, p, none⟩ = some (.int .i64 y) := (BB.out.cell p).trans hyc
          have ly := BB.out.lt
          have hi := HI.out
          rw [HD.out, List.map_cons, List.cons_append] at hi
          have HW1 := Lib.hid fun W => rWideOf_c x y W hx hy
          have HW2 := Lib.hid fun W => rWideOf_c x 1 W hx ⟨by omega, by omega⟩
          have HQ1 : Hid (over = false → ∀ W, Calls Tryz.prog 320 #[.agg #[.bool (negM x y), .int .u64 ((x.natAbs * y.natAbs / 18446744073709551616 : Nat) : Int), .int .u64 ((x.natAbs * y.natAbs % 18446744073709551616 : Nat) : Int)], .int .i64 1] W fun e w' => e = .returned (quoB (opF over x y)) ∧ Ext W w') := by
            intro ho W
            subst ho
            exact rMulDiv_in x y 1 W ⟨by omega, by omega⟩ (by omega)
          have HQ2 : Hid (over = true → ∀ W, Calls Tryz.prog 320 #[.agg #[.bool (negM x 1), .int .u64 ((x.natAbs * (1 : Int).natAbs / 18446744073709551616 : Nat) : Int), .int .u64 ((x.natAbs * (1 : Int).natAbs % 18446744073709551616 : Nat) : Int)], .int .i64 y] W fun e w' => e = .returned (quoB (opF over x y)) ∧ Ext W w') := by
            intro ho W
            have hy0 := H00.out ho
            subst ho
            exact rMulDiv_in x 1 y W hy (by rcases hyb with rfl | rfl <;> omega)
          generalize opF over x y = Q at *
          generalize negM x y = m1 at *
          generalize ((x.natAbs * y.natAbs / 18446744073709551616 : Nat) : Int) = m2 at *
          generalize ((x.natAbs * y.natAbs % 18446744073709551616 : Nat) : Int) = m3 at *
          generalize negM x 1 = k1 at *
          generalize ((x.natAbs * (1 : Int).natAbs / 18446744073709551616 : Nat) : Int) = k2 at *
          generalize ((x.natAbs * (1 : Int).natAbs % 18446744073709551616 : Nat) : Int) = k3 at *
          obtain ⟨ql, qh, qe⟩ := Q
          unfold quoB at HQ1 HQ2
          dsimp only at HQ1 HQ2
          rw [joinR] at hi
          dsimp only at hi
          clear HI HD hyc hx hy hyb
          by_cases hqe : qe = 0
          · subst hqe
            rw [if_pos rfl] at hi
            have Hi := Lib.hid hi
            rw [decide_eq_true rfl] at HQ1 HQ2
            clear hi
            have hcase : ∃ lo' hi' : Int, Hid (joinR (([bl, bh].drop (p + 1)).map (opF over x) ++ RS) ⟨lo', hi'⟩ false = T) ∧ (fb = true ∧ lo' = ql ∧ hi' = qh ∨ fb = false ∧ (ql < o.lo ∧ lo' = ql ∨ o.lo ≤ ql ∧ lo' = o.lo) ∧ (o.hi < qh ∧ hi' = qh ∨ qh ≤ o.hi ∧ hi' = o.hi)) := by
              refine ⟨_, _, Hi, ?_⟩
              cases fb
              · right
                refine ⟨rfl, ?_, ?_⟩
                · by_cases c : ql < o.lo
                  · left; exact ⟨c, by rw [if_pos (.inr c)]⟩
                  · right; exact ⟨by omega, by rw [if_neg (by simp; omega)]⟩
                · by_cases c : o.hi < qh
                  · left; exact ⟨c, by rw [if_pos (.inr c)]⟩
                  · right; exact ⟨by omega, by rw [if_neg (by simp; omega)]⟩
              · left
                exact ⟨rfl, by simp, by simp⟩
            clear Hi
            obtain ⟨lo', hi', Hi, hcase⟩ := hcase
            have n4 : g + 1 ≠ g + 1 + 1 + 1 := by omega
            have n6 : g + 1 + 1 ≠ g + 1 + 1 + 1 := by omega
            have nA : g + 1 + 1 + 1 + 1 ≠ g + 1 + 1 + 1 := by omega
            have nB : q ≠ g + 1 + 1 + 1 := by omega
            obtain ⟨ol, oh⟩ := o
            dsimp only at hcase B8
            cases over
            · have HQ := Lib.hid (HQ1.out rfl)
              clear HQ1 HQ2 HW2
              rcases hcase with ⟨rfl, rfl, rfl⟩ | ⟨rfl, ⟨u1, rfl⟩ | ⟨u1, rfl⟩, ⟨u2, rfl⟩ | ⟨u2, rfl⟩⟩
              all_goals go_wp2_with fail
              all_goals refine (HW1.out _).mono ?_
              all_goals rintro e w7 ⟨rfl, h7⟩
              all_goals have F4 := Lib.hid (B4.out.ext h7)
              all_goals have F6 := Lib.hid (B6.out.ext h7)
              all_goals have F8 := Lib.hid (B8.out.ext h7)
              all_goals have FA := Lib.hid (BA.out.ext h7)
              all_goals have FB := Lib.hid (BB.out.ext h7)
              all_goals have FE := hb.trans h7
              all_goals clear h7 cy ly
              all_goals go_wp2_with fail
              all_goals refine (HQ.out _).mono ?_
              all_goals rintro e w8 ⟨rfl, h8⟩
              all_goals have h9 : Ext w7 w8 := Ext.trans ext_by h8
              all_goals have c8 := (F8.out.ext h9).cell
              all_goals have l8 := (F8.out.ext h9).lt
              all_goals have f8 := (F8.out.ext h9).frozen
              all_goals clear h8
              all_goals have hE8 : Ext w w8 := FE.trans h9
              all_goals go_wp2_with fail
              all_goals go_roundw
              all_goals try (simp [intOf]; omega)
              all_goals exact ⟨p + 1, false, ⟨_, _⟩, by omega, rfl, by go_num, Hi.out, by first | exact Lib.hid (F4.out.ext h9) | exact Lib.hid ((F4.out.ext h9).far n4 _) | exact Lib.hid (((F4.out.ext h9).far n4 _).far n4 _), by first | exact Lib.hid (F6.out.ext h9) | exact Lib.hid ((F6.out.ext h9).far n6 _) | exact Lib.hid (((F6.out.ext h9).far n6 _).far n6 _), by first | exact Lib.hid (F8.out.ext h9) | exact Lib.hid ((F8.out.ext h9).set_ 0 _) | exact Lib.hid ((F8.out.ext h9).set_ 1 _) | exact Lib.hid (((F8.out.ext h9).set_ 0 _).set_ 1 _), by first | exact Lib.hid (FA.out.ext h9) | exact Lib.hid ((FA.out.ext h9).far nA _) | exact Lib.hid (((FA.out.ext h9).far nA _).far nA _), by first | exact Lib.hid (FB.out.ext h9) | exact Lib.hid ((FB.out.ext h9).far nB _) | exact Lib.hid (((FB.out.ext h9).far nB _).far nB _), ext_by⟩
            · have HQ := Lib.hid (HQ2.out rfl)
              clear HQ1 HQ2
              rcases hcase with ⟨rfl, rfl, rfl⟩ | ⟨rfl, ⟨u1, rfl⟩ | ⟨u1, rfl⟩, ⟨u2, rfl⟩ | ⟨u2, rfl⟩⟩
              all_goals go_wp2_with fail
              all_goals refine (HW1.out _).mono ?_
              all_goals rintro e w7 ⟨rfl, h7⟩
              all_goals have F4 := Lib.hid (B4.out.ext h7)
              all_goals have F6 := Lib.hid (B6.out.ext h7)
              all_goals have F8 := Lib.hid (B8.out.ext h7)
              all_goals have FA := Lib.hid (BA.out.ext h7)
              all_goals have FB := Lib.hid (BB.out.ext h7)
              all_goals have FE := hb.trans h7
              all_goals clear h7 cy ly
              all_goals go_wp2_with fail
              all_goals refine (HW2.out _).mono ?_
              all_goals rintro e w17 ⟨rfl, h17⟩
              all_goals have h17e : Ext w7 w17 := Ext.trans ext_by h17
              all_goals have BW := (Blk.newAt (t := 314) rfl).ext h17
              all_goals have c_BW := BW.cell; have f_BW := BW.frozen; have l_BW := BW.lt
              all_goals go_wp2_with fail
              all_goals refine (HQ.out _).mono ?_
              all_goals rintro e w8 ⟨rfl, h8⟩
              all_goals have h9 : Ext w7 w8 := Ext.trans ext_by h8
              all_goals have c8 := (F8.out.ext h9).cell
              all_goals have l8 := (F8.out.ext h9).lt
              all_goals have f8 := (F8.out.ext h9).frozen
              all_goals clear h8
              all_goals have hE8 : Ext w w8 := FE.trans h9
              all_goals go_wp2_with fail
              all_goals go_roundw
              all_goals try (simp [intOf]; omega)
              all_goals exact ⟨p + 1, false, ⟨_, _⟩, by omega, rfl, by go_num, Hi.out, by first | exact Lib.hid (F4.out.ext h9) | exact Lib.hid ((F4.out.ext h9).far n4 _) | exact Lib.hid (((F4.out.ext h9).far n4 _).far n4 _), by first | exact Lib.hid (F6.out.ext h9) | exact Lib.hid ((F6.out.ext h9).far n6 _) | exact Lib.hid (((F6.out.ext h9).far n6 _).far n6 _), by first | exact Lib.hid (F8.out.ext h9) | exact Lib.hid ((F8.out.ext h9).set_ 0 _) | exact Lib.hid ((F8.out.ext h9).set_ 1 _) | exact Lib.hid (((F8.out.ext h9).set_ 0 _).set_ 1 _), by first | exact Lib.hid (FA.out.ext h9) | exact Lib.hid ((FA.out.ext h9).far nA _) | exact Lib.hid (((FA.out.ext h9).far nA _).far nA _), by first | exact Lib.hid (FB.out.ext h9) | exact Lib.hid ((FB.out.ext h9).far nB _) | exact Lib.hid (((FB.out.ext h9).far nB _).far nB _), ext_by⟩
          · rw [if_neg hqe] at hi
            have Hi := Lib.hid hi
            rw [decide_eq_false hqe] at HQ1 HQ2
            clear hi
            cases over
            · have HQ := Lib.hid (HQ1.out rfl)
              clear HQ1 HQ2 HW2
              go_wp2_with fail
              refine (HW1.out _).mono ?_
              rintro e w7 ⟨rfl, h7⟩
              have F6 := Lib.hid (B6.out.ext h7)
              have FE := hb.trans h7
              clear h7 cy ly
              go_wp2_with fail
              refine (HQ.out _).mono ?_
              rintro e w8 ⟨rfl, h8⟩
              have h9 : Ext w7 w8 := Ext.trans ext_by h8
              have c6 := (F6.out.ext h9).cell
              have l6 := (F6.out.ext h9).lt
              have f6 := (F6.out.ext h9).frozen
              have hE8 : Ext w w8 := FE.trans h9
              clear h8
              go_wp2_with fail
              (try simp only [Exit.inBlock, Exit.then]); apply bodyPost_ret; (focus (simp only [results, Tryz.results287]; go_simp; try rfl)); rfl
              exact ⟨ret_v (by rw [← Hi.out]; rfl), ext_by⟩
            · have HQ := Lib.hid (HQ2.out rfl)
              clear HQ1 HQ2
              go_wp2_with fail
              refine (HW1.out _).mono ?_
              rintro e w7 ⟨rfl, h7⟩
              have F6 := Lib.hid (B6.out.ext h7)
              have FE := hb.trans h7
              clear h7 cy ly
              go_wp2_with fail
              refine (HW2.out _).mono ?_
              rintro e w17 ⟨rfl, h17⟩
              have h17e : Ext w7 w17 := Ext.trans ext_by h17
              have BW := (Blk.newAt (t := 314) rfl).ext h17
              have c_BW := BW.cell; have f_BW := BW.frozen; have l_BW := BW.lt
              go_wp2_with fail
              refine (HQ.out _).mono ?_
              rintro e w8 ⟨rfl, h8⟩
              have h9 : Ext w7 w8 := Ext.trans ext_by h8
              have c6 := (F6.out.ext h9).cell
              have l6 := (F6.out.ext h9).lt
              have f6 := (F6.out.ext h9).frozen
              have hE8 : Ext w w8 := FE.trans h9
              clear h8
              go_wp2_with fail
              (try simp only [Exit.inBlock, Exit.then]); apply bodyPost_ret; (focus (simp only [results, Tryz.results287]; go_simp; try rfl)); rfl
              exact ⟨ret_v (by rw [← Hi.out]; rfl), ext_by⟩
        · have hp' : p = 2 := by omega
          subst hp'
          have hi : joinR RS o fb = T := HI.out
          have Hi : Hid (joinR (([al, ah].drop (k + 1)).flatMap fun x => [bl, bh].map (opF over x)) o fb = T) := by rw [HRS.out]; exact hi
          clear hi HI
          go_wp2_with fail
          go_roundw
          case rel => exact ⟨k + 1, fb, o, by omega, rfl, by go_num, Hi.out, B4, B6, B8, BA, hb⟩
          case measure => simp [intOf]; omega
    · have hk' : k = 2 := by omega
      subst hk'
      have hi : SpR.mk o 0 = T := HI.out
      subst hi
      have c8 := B8.out.cell
      have c6 := B6.out.cell
      have f6 := B6.out.frozen
      have l8 := B8.out.lt
      have l6 := B6.out.lt
      obtain ⟨ol, oh⟩ := o
      dsimp only at c8
      go_wp2_with fail
      (try simp only [Exit.inBlock, Exit.then]); apply bodyPost_ret; (focus (simp only [results, Tryz.results287]; go_simp; try rfl)); rfl
      exact ⟨rfl, ext_by⟩
end Go.Proofs.YtiladlangkjoiaaGreat
