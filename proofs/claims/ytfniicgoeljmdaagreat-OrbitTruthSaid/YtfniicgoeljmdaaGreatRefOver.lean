/- Distances, and a number times a vector over squares: the reference. No condition. A number times a vector over squares: the reference. No condition. The pull of a body on an area: the reference. No condition. Light and heat: the reference. No condition. What moves a small body: the reference. No condition. -/
import Derived.Test.YtfniicgoeljmdaaGreatRefForce
import Derived.Test.YtfniicgoeljmdaaGreatForceOf
import Derived.Test.YtfniicgoeljmdaaGreatBoxSet
namespace Go.Proofs.YtfniicgoeljmdaaGreat
open Go.RowKit

set_option maxRecDepth 20000 in
set_option maxHeartbeats 4000000 in
theorem gDist_c (mu r : Int) (A : Option Addr) (n c : Nat) (xl xh yl yh : Int) (w : World) (hr : 0 ≤ r ∧ r ≤ 1048576) :
    Calls Tryz.prog 210 #[.agg #[.int .i64 mu, .int .i64 r, .slice A n c], .agg #[.int .i64 xl, .int .i64 xh], .agg #[.int .i64 yl, .int .i64 yh]] w fun e w' =>
      e = .returned (.tuple #[.agg #[.int .i64 (qM r ⟨⟨xl, xh⟩, ⟨yl, yh⟩⟩).lo, .int .i64 (qM r ⟨⟨xl, xh⟩, ⟨yl, yh⟩⟩).hi], .agg #[.int .i64 (rM (qM r ⟨⟨xl, xh⟩, ⟨yl, yh⟩⟩)).lo, .int .i64 (rM (qM r ⟨⟨xl, xh⟩, ⟨yl, yh⟩⟩)).hi]]) ∧ Ext w w' := by
  have m1 : r * r ≤ 1099511627776 := Int.mul_le_mul hr.2 hr.2 hr.1 (by omega)
  have m0 : 0 ≤ r * r := Int.mul_nonneg hr.1 hr.1
  obtain ⟨S, hS⟩ : ∃ S, addS (squareS ⟨xl, xh⟩) (squareS ⟨yl, yh⟩) = S := ⟨_, rfl⟩
  have hq : qM r ⟨⟨xl, xh⟩, ⟨yl, yh⟩⟩ = ⟨max S.lo (max 1 (r * r)), max S.hi (max 1 (r * r))⟩ := by unfold qM edgeM; rw [hS]
  rw [hq]
  unfold rM
  have HS := Lib.hid hS
  obtain ⟨Sl, Sh⟩ := S
  dsimp only
  have HR := Lib.hid fun W => rRoots_c (max Sl (max 1 (r * r))) (max Sh (max 1 (r * r))) W
  generalize rootsM _ = R at *
  obtain ⟨⟨rl, rh⟩, re⟩ := R
  obtain ⟨hr1, hr2⟩ := hr
  clear hS hq
  go_enter Tryz.func210, Tryz.ntmps210
  go_wp2_with fail
  refine wp_region_forced 5 (Ext _) (Stable.ext _) (Ext.drew (Ext.refl _)) (by kernel_rfl) (by kernel_rfl) ?_
  simp only [List.take_succ_cons, List.take_zero, List.drop_succ_cons, List.drop_zero]
  (repeat' (first | (refine bl_off (by rfl) ?_; simp only [putX]) | (apply bl_op; rfl; (intro w1 h1; obtain ⟨hc, hf, hz⟩ := bcell h1; go_simp; (try go_bits); (first | exact ⟨rfl, Ext.refl _⟩ | (apply gives_call; first | (go_at_call 234; exact gSquared_c _ _ _) | (go_at_call 168; exact gSum_c _ _ _ _ _)) | (go_invoke; go_simp; apply gives_call; first | (go_at_call 234; exact gSquared_c _ _ _) | (go_at_call 168; exact gSum_c _ _ _ _ _)))); simp only [putX]) | (refine bl_split rfl rfl (fun hx => ?_) (fun hx => ?_) <;> simp only [hx])))
  refine bl_nil ?_
  intro w1 h1
  have B3 : Blk w1 w.heap.size 97 #[.int .i64 mu, .int .i64 r, .slice A n c] := (((((Blk.newAt rfl).alloc _).alloc _).alloc _).alloc _).ext h1
  have B6 : Blk w1 (w.heap.size + 1 + 1 + 1) 26 #[.int .i64 0, .int .i64 0] := ((Blk.newAt (by simp)).alloc _).ext h1
  have B7 : Blk w1 (w.heap.size + 1 + 1 + 1 + 1) 26 #[.int .i64 0, .int .i64 0] := (Blk.newAt (by simp)).ext h1
  have E1 : Ext w w1 := ext_by
  rw [HS.out]
  dsimp only
  clear h1
  have c_B3 := B3.cell; have f_B3 := B3.frozen; have l_B3 := B3.lt; have c_B6 := B6.cell; have f_B6 := B6.frozen; have l_B6 := B6.lt; have c_B7 := B7.cell; have f_B7 := B7.frozen; have l_B7 := B7.lt
  (try dsimp only); iterate 2 (first | go_values | go_skip | go_guarded | go_step | go_upon | go_in)
  refine name_world _ ?_
  intro W hW
  have C3 : Blk W w.heap.size 97 #[.int .i64 mu, .int .i64 r, .slice A n c] := by rw [hW]; exact blk_far2 B3 (by omega)
  have C6 : Blk W (w.heap.size + 1 + 1 + 1) 26 #[.int .i64 Sl, .int .i64 Sh] := by rw [hW]; exact blk_set2 B6 rfl
  have C7 : Blk W (w.heap.size + 1 + 1 + 1 + 1) 26 #[.int .i64 0, .int .i64 0] := by rw [hW]; exact blk_far2 B7 (by omega)
  have E2 : Ext w W := by rw [hW]; exact ext_set2 E1 (by omega)
  clear c_B3 f_B3 l_B3 c_B6 f_B6 l_B6 c_B7 f_B7 l_B7
  clear hW B3 B6 B7 E1
  have c_C3 := C3.cell; have f_C3 := C3.frozen; have l_C3 := C3.lt; have c_C6 := C6.cell; have f_C6 := C6.frozen; have l_C6 := C6.lt; have c_C7 := C7.cell; have f_C7 := C7.frozen; have l_C7 := C7.lt
  go_wp2_with fail
  refine (HR.out _).mono ?_
  rintro e w2 ⟨rfl, h2⟩
  have B6' : Blk w2 (w.heap.size + 1 + 1 + 1) 26 #[.int .i64 (max Sl (max 1 (r * r))), .int .i64 (max Sh (max 1 (r * r)))] := (blk_set2 (i := 0) (j := 1) C6 rfl).ext h2
  have B7' : Blk w2 (w.heap.size + 1 + 1 + 1 + 1) 26 #[.int .i64 0, .int .i64 0] := (blk_far2 (b := w.heap.size + 1 + 1 + 1) (i := 0) (j := 1) C7 (by omega)).ext h2
  replace E2 : Ext w w2 := (ext_set2 E2 (by omega)).trans h2
  clear c_C3 f_C3 l_C3 c_C6 f_C6 l_C6 c_C7 f_C7 l_C7
  clear C3 C6 C7 h2
  have c_B6' := B6'.cell; have f_B6' := B6'.frozen; have l_B6' := B6'.lt; have c_B7' := B7'.cell; have f_B7' := B7'.frozen; have l_B7' := B7'.lt
  go_wp2_with fail
  refine name_world _ ?_
  intro W5 hW5
  have D6 : Blk W5 (w.heap.size + 1 + 1 + 1) 26 #[.int .i64 (max Sl (max 1 (r * r))), .int .i64 (max Sh (max 1 (r * r)))] := by rw [hW5]; exact blk_far2 B6' (by omega)
  have D7 : Blk W5 (w.heap.size + 1 + 1 + 1 + 1) 26 #[.int .i64 rl, .int .i64 rh] := by rw [hW5]; exact blk_set2 B7' rfl
  have E5 : Ext w W5 := by rw [hW5]; exact ext_set2 E2 (by omega)
  clear c_B6' f_B6' l_B6' c_B7' f_B7' l_B7' B6' B7' hW5 E2
  have c_D6 := D6.cell; have f_D6 := D6.frozen; have l_D6 := D6.lt; have c_D7 := D7.cell; have f_D7 := D7.frozen; have l_D7 := D7.lt
  go_region
  go_wp2_with fail
  (try simp only [Exit.inBlock, Exit.then]); apply bodyPost_ret; (focus (simp only [results, Tryz.results210]; go_simp; try rfl)); rfl
  exact ⟨rfl, (ext_set2 (ext_set2 E5 (by omega)) (by omega)).drew⟩
end Go.Proofs.YtfniicgoeljmdaaGreat

namespace Go.Proofs.YtfniicgoeljmdaaGreat
open Go.RowKit

theorem two_at2 (a b : Int) {k : Nat} (h : k < 2) : ∃ x : Int, ((#[.int .i64 a, .int .i64 b] : Array Value)[k]? = some (.int .i64 x)) ∧ Hid ([a, b].drop k = x :: [a, b].drop (k + 1)) ∧ (x = a ∨ x = b) := by
  rcases (show k = 0 ∨ k = 1 by omega) with rfl | rfl
  · exact ⟨a, rfl, rfl, .inl rfl⟩
  · exact ⟨b, rfl, rfl, .inr rfl⟩
set_option maxRecDepth 20000 in
set_option maxHeartbeats 8000000 in
theorem gScaled_c (mu al ah bl bh : Int) (w : World) (hmu : 0 ≤ mu ∧ mu ≤ 1125899906842624) (hx : Sm 67108864 ⟨al, ah⟩) (hq : 1 ≤ bl ∧ bl ≤ bh ∧ bh ≤ 9007199254740992) :
    Calls Tryz.prog 213 #[.int .i64 mu, .agg #[.int .i64 al, .int .i64 ah], .agg #[.int .i64 bl, .int .i64 bh]] w fun e w' => e = .returned (.agg #[.int .i64 (scaledM mu ⟨al, ah⟩ ⟨bl, bh⟩).lo, .int .i64 (scaledM mu ⟨al, ah⟩ ⟨bl, bh⟩).hi]) ∧ Ext w w' := by
  obtain ⟨T, hT⟩ : ∃ T, joinR (cornQ (scQ mu) ⟨al, ah⟩ ⟨bl, bh⟩) ⟨0, 0⟩ true = T := ⟨_, rfl⟩
  have hsc : scaledM mu ⟨al, ah⟩ ⟨bl, bh⟩ = T.s := by
    unfold scaledM
    rw [← hT, corners_eq (scQ_ok mu)]
  rw [hsc]
  have hT2 : joinR (([al, ah].drop 0).flatMap fun x => [bl, bh].map (scQ mu x)) ⟨0, 0⟩ true = T := hT
  have HT := Lib.hid hT2
  have HA := Lib.hid fun k (h : k < 2) => two_at2 al ah h
  have HB := Lib.hid fun k (h : k < 2) => two_at2 bl bh h
  obtain ⟨hx1, hx2, hx3⟩ := hx
  dsimp only at hx1 hx2 hx3
  have HM := Lib.hid fun (x y : Int) (h1 : x = al ∨ x = ah) (h2 : y = bl ∨ y = bh) W => rMulDiv_c mu x y W (fitsP_of (by omega)) (fitsP_of (by omega)) (fitsP_of (by omega)) (by omega)
  clear hT hT2 hsc hmu hx1 hx2 hx3 hq
  go_enter Tryz.func213, Tryz.ntmps213
  go_wp2_with fail
  refine name_world _ ?_
  intro W1 hW1
  obtain ⟨g, hg⟩ : ∃ b, b = w.heap.size := ⟨_, rfl⟩
  have B4 : Blk W1 (g + 1) 26 #[.int .i64 bl, .int .i64 bh] := by rw [hW1, hg]; exact ((((Blk.newAt (by simp)).alloc _).alloc _).alloc _)
  have B6 : Blk W1 (g + 1 + 1) 26 #[.int .i64 0, .int .i64 0] := by rw [hW1, hg]; exact (((Blk.newAt (by simp)).alloc _).alloc _)
  have B8 : Blk W1 (g + 1 + 1 + 1) 26 #[.int .i64 0, .int .i64 0] := by rw [hW1, hg]; exact ((Blk.newAt (by simp)).alloc _)
  have BA : Blk W1 (g + 1 + 1 + 1 + 1) 2 #[.int .i64 al, .int .i64 ah] := by rw [hW1, hg]; exact (Blk.newAt (by simp))
  have E1 : Ext w W1 := by rw [hW1]; exact ext_by
  have og : w.heap.size ≤ g := by omega
  rw [← hg]
  clear hW1 hg
  go_loopw [8, 22] (fun f i wr => ∃ (k : Nat) (fb : Bool) (o : Sp), k ≤ 2 ∧ f = .bool fb ∧ i = .int .i64 k ∧ Hid (joinR (([al, ah].drop k).flatMap fun x => [bl, bh].map (scQ mu x)) o fb = T) ∧ Hid (Blk wr (g + 1) 26 #[.int .i64 bl, .int .i64 bh]) ∧ Hid (Blk wr (g + 1 + 1) 26 #[.int .i64 0, .int .i64 0]) ∧ Hid (Blk wr (g + 1 + 1 + 1) 26 #[.int .i64 o.lo, .int .i64 o.hi]) ∧ Hid (Blk wr (g + 1 + 1 + 1 + 1) 2 #[.int .i64 al, .int .i64 ah]) ∧ Ext w wr) (fun _ i _ => 2 - (intOf i).toNat)
  case atStart => exact ⟨0, true, ⟨0, 0⟩, Nat.zero_le _, rfl, rfl, HT.out, B4, B6, B8, BA, E1⟩
  case round =>
    clear B4 B6 B8 BA E1
    obtain ⟨k, fb, o, hk, rfl, rfl, HI, B4, B6, B8, BA, hb⟩ := hrel
    by_cases hk2 : k < 2
    · have hkz : (k : Int) < 2 := by omega
      have hkd : decide ((k : Int) < 2) = true := by simp; omega
      obtain ⟨x, hxc, HD, hxb⟩ := HA.out k hk2
      have cx : wr.cell? ⟨g + 1 + 1 + 1 + 1, k, none⟩ = some (.int .i64 x) := (BA.out.cell k).trans hxc
      have lx := BA.out.lt
      have c4 := B4.out.cell
      have l4 := B4.out.lt
      have hi := HI.out
      rw [HD.out, List.flatMap_cons] at hi
      obtain ⟨RS, hRS⟩ : ∃ RS, (([al, ah].drop (k + 1)).flatMap fun x => [bl, bh].map (scQ mu x)) = RS := ⟨_, rfl⟩
      rw [hRS] at hi
      have Hi : Hid (joinR (([bl, bh].drop 0).map (scQ mu x) ++ RS) o fb = T) := hi
      have HRS := Lib.hid hRS
      have HXB := Lib.hid hxb
      clear hi HI hRS HD hxc hxb
      obtain ⟨wo, rfl⟩ : ∃ wo : World, wo = wr := ⟨_, rfl⟩
      go_wp2_with fail
      refine name_world _ ?_
      intro W2 hW2
      obtain ⟨q, hq⟩ : ∃ b, b = wo.heap.size := ⟨_, rfl⟩
      have D4 : Blk W2 (g + 1) 26 #[.int .i64 bl, .int .i64 bh] := by rw [hW2]; exact B4.out.alloc _
      have D6 : Blk W2 (g + 1 + 1) 26 #[.int .i64 0, .int .i64 0] := by rw [hW2]; exact B6.out.alloc _
      have D8 : Blk W2 (g + 1 + 1 + 1) 26 #[.int .i64 o.lo, .int .i64 o.hi] := by rw [hW2]; exact B8.out.alloc _
      have DA : Blk W2 (g + 1 + 1 + 1 + 1) 2 #[.int .i64 al, .int .i64 ah] := by rw [hW2]; exact BA.out.alloc _
      have DB : Blk W2 q 2 #[.int .i64 bl, .int .i64 bh] := by rw [hW2]; exact Blk.newAt hq
      have E2 : Ext w W2 := by rw [hW2]; exact hb.alloc _
      have oq : g + 1 + 1 + 1 + 1 < q := by omega
      rw [← hq]
      clear hW2 hq B4 B6 B8 BA hb cx lx c4 l4
      go_loopw [8, 32] (fun f j wr => ∃ (p : Nat) (fb : Bool) (o : Sp), p ≤ 2 ∧ f = .bool fb ∧ j = .int .i64 p ∧ Hid (joinR (([bl, bh].drop p).map (scQ mu x) ++ RS) o fb = T) ∧ Hid (Blk wr (g + 1) 26 #[.int .i64 bl, .int .i64 bh]) ∧ Hid (Blk wr (g + 1 + 1) 26 #[.int .i64 0, .int .i64 0]) ∧ Hid (Blk wr (g + 1 + 1 + 1) 26 #[.int .i64 o.lo, .int .i64 o.hi]) ∧ Hid (Blk wr (g + 1 + 1 + 1 + 1) 2 #[.int .i64 al, .int .i64 ah]) ∧ Hid (Blk wr q 2 #[.int .i64 bl, .int .i64 bh]) ∧ Ext w wr) (fun _ j _ => 2 - (intOf j).toNat)
      case atStart => exact ⟨0, fb, o, Nat.zero_le _, rfl, rfl, Hi.out, D4, D6, D8, DA, DB, E2⟩
      case round =>
        clear D4 D6 D8 DA DB E2 Hi
        obtain ⟨p, fb, o, hp, rfl, rfl, HI, B4, B6, B8, BA, BB, hb⟩ := hrel
        by_cases hp2 : p < 2
        · have hpz : (p : Int) < 2 := by omega
          have hpd : decide ((p : Int) < 2) = true := by simp; omega
          obtain ⟨y, hyc, HD, hyb⟩ := HB.out p hp2
          have cy : wr.cell? ⟨q, p, none⟩ = some (.int .i64 y) := (BB.out.cell p).trans hyc
          have ly := BB.out.lt
          have hi := HI.out
          rw [HD.out, List.map_cons, List.cons_append, joinR, if_pos (scQ_e mu x y)] at hi
          have HQ := Lib.hid fun W => HM.out x y HXB.out hyb W
          have hQs : ((mulDivM mu x y).e = 0 ∧ (scQ mu x y).lo = (mulDivM mu x y).lo ∧ (scQ mu x y).hi = (mulDivM mu x y).hi) ∨ ((mulDivM mu x y).e = 14 ∧ x < 0 ∧ (scQ mu x y).lo = -1152921504606846976 ∧ (scQ mu x y).hi = -1152921504606846976) ∨ ((mulDivM mu x y).e = 14 ∧ 0 ≤ x ∧ (scQ mu x y).lo = 1152921504606846976 ∧ (scQ mu x y).hi = 1152921504606846976) := by
            unfold scQ
            rcases mulDiv_ok mu x y with h | h
            · rw [if_pos h.1]; exact .inl ⟨h.1, rfl, rfl⟩
            · rw [if_neg (by rw [h.1]; decide)]
              by_cases hn : x < 0
              · rw [if_pos hn]; exact .inr (.inl ⟨h.1, hn, rfl, rfl⟩)
              · rw [if_neg hn]; exact .inr (.inr ⟨h.1, by omega, rfl, rfl⟩)
          generalize scQ mu x y = Q at *
          generalize mulDivM mu x y = M at *
          obtain ⟨sl, sh, se⟩ := Q
          obtain ⟨ml, mh, me⟩ := M
          dsimp only at hi HQ hQs
          have Hi := Lib.hid hi
          clear HI HD hyc hyb hi
          have hcase : ∃ lo' hi' : Int, Hid (joinR (([bl, bh].drop (p + 1)).map (scQ mu x) ++ RS) ⟨lo', hi'⟩ false = T) ∧ (fb = true ∧ lo' = sl ∧ hi' = sh ∨ fb = false ∧ (sl < o.lo ∧ lo' = sl ∨ o.lo ≤ sl ∧ lo' = o.lo) ∧ (o.hi < sh ∧ hi' = sh ∨ sh ≤ o.hi ∧ hi' = o.hi)) := by
            refine ⟨_, _, Hi, ?_⟩
            cases fb
            · right
              refine ⟨rfl, ?_, ?_⟩
              · by_cases c : sl < o.lo
                · left; exact ⟨c, by rw [if_pos (.inr c)]⟩
                · right; exact ⟨by omega, by rw [if_neg (by simp; omega)]⟩
              · by_cases c : o.hi < sh
                · left; exact ⟨c, by rw [if_pos (.inr c)]⟩
                · right; exact ⟨by omega, by rw [if_neg (by simp; omega)]⟩
            · left
              exact ⟨rfl, by simp, by simp⟩
          clear Hi
          obtain ⟨lo', hi', Hi, hcase⟩ := hcase
          have n4 : g + 1 ≠ g + 1 + 1 + 1 := by omega
          have n6 : g + 1 + 1 ≠ g + 1 + 1 + 1 := by omega
          have nA : g + 1 + 1 + 1 + 1 ≠ g + 1 + 1 + 1 := by omega
          have nB : q ≠ g + 1 + 1 + 1 := by omega
          obtain ⟨ol, oh⟩ := o
          dsimp only at hcase B8
          rcases hQs with ⟨rfl, rfl, rfl⟩ | ⟨rfl, hxn, rfl, rfl⟩ | ⟨rfl, hxn, rfl, rfl⟩
          all_goals rcases hcase with ⟨rfl, rfl, rfl⟩ | ⟨rfl, ⟨u1, rfl⟩ | ⟨u1, rfl⟩, ⟨u2, rfl⟩ | ⟨u2, rfl⟩⟩
          all_goals go_wp2_with fail
          all_goals refine (HQ.out _).mono ?_
          all_goals rintro e w7 ⟨rfl, h7⟩
          all_goals have F4 := Lib.hid (B4.out.ext h7)
          all_goals have F6 := Lib.hid (B6.out.ext h7)
          all_goals have F8 := Lib.hid (B8.out.ext h7)
          all_goals have FA := Lib.hid (BA.out.ext h7)
          all_goals have FB := Lib.hid (BB.out.ext h7)
          all_goals have FE := hb.trans h7
          all_goals clear h7 cy ly
          all_goals have c8 := F8.out.cell
          all_goals have l8 := F8.out.lt
          all_goals have f8 := F8.out.frozen
          all_goals go_wp2_with fail
          all_goals go_roundw
          all_goals try (simp [intOf]; omega)
          all_goals exact ⟨p + 1, false, ⟨_, _⟩, by omega, rfl, by go_num, Hi.out, by first | exact Lib.hid F4.out | exact Lib.hid (F4.out.far n4 _) | exact Lib.hid ((F4.out.far n4 _).far n4 _), by first | exact Lib.hid F6.out | exact Lib.hid (F6.out.far n6 _) | exact Lib.hid ((F6.out.far n6 _).far n6 _), by first | exact Lib.hid F8.out | exact Lib.hid (F8.out.set_ 0 _) | exact Lib.hid (F8.out.set_ 1 _) | exact Lib.hid ((F8.out.set_ 0 _).set_ 1 _), by first | exact Lib.hid FA.out | exact Lib.hid (FA.out.far nA _) | exact Lib.hid ((FA.out.far nA _).far nA _), by first | exact Lib.hid FB.out | exact Lib.hid (FB.out.far nB _) | exact Lib.hid ((FB.out.far nB _).far nB _), ext_by⟩
        · have hp' : p = 2 := by omega
          subst hp'
          have hi : joinR RS o fb = T := HI.out
          have Hi : Hid (joinR (([al, ah].drop (k + 1)).flatMap fun x => [bl, bh].map (scQ mu x)) o fb = T) := by rw [HRS.out]; exact hi
          clear hi HI
          go_wp2_with fail
          go_roundw
          case rel => exact ⟨k + 1, fb, o, by omega, rfl, by go_num, Hi.out, B4, B6, B8, BA, hb⟩
          case measure => simp [intOf]; omega
    · have hk' : k = 2 := by omega
      subst hk'
      have hi : SpR.mk o 0 = T := HI.out
      subst hi
      have c8 := B8.out.cell
      have c6 := B6.out.cell
      have f6 := B6.out.frozen
      have l8 := B8.out.lt
      have l6 := B6.out.lt
      obtain ⟨ol, oh⟩ := o
      dsimp only at c8
      go_wp2_with fail
      (try simp only [Exit.inBlock, Exit.then]); apply bodyPost_ret; (focus (simp only [results, Tryz.results213]; go_simp; try rfl)); rfl
      exact ⟨rfl, ext_by⟩
end Go.Proofs.YtfniicgoeljmdaaGreat

namespace Go.Proofs.YtfniicgoeljmdaaGreat
open Go.RowKit

set_option maxRecDepth 20000 in
set_option maxHeartbeats 8000000 in
theorem gOne_c (b off n c : Nat) (home : Int) (l : List Body) (k : Nat) (x : Body) (tick : Int) (a : Ar) (w : World) (hl : Bodies w (some ⟨b, off, none⟩) n l) (hx : l[k]? = some x) (hb : 0 ≤ x.mu ∧ x.mu ≤ 1125899906842624 ∧ 0 ≤ x.radius ∧ x.radius ≤ 1048576) (ha : SmA 33554432 a) :
    Calls Tryz.prog 167 #[.agg #[.slice (some ⟨b, off, none⟩) n c, .int .i64 home], .int .i64 (k : Int), .int .i64 tick, .agg #[.int .i64 a.x.lo, .int .i64 a.x.hi, .int .i64 a.y.lo, .int .i64 a.y.hi]] w fun e w' => e = .returned (arV (pullM x (atM l home k tick) a)) ∧ Ext w w' := by
  have hn := hl.le
  have hp := at_place l home tick k
  have HA := Lib.hid fun W (hW : Ext w W) => refAt_c (some ⟨b, off, none⟩) n c home k tick l W (Bodies.ext hW hl)
  obtain ⟨hkn, b', off', e, h0, h1, A', n', c', h2, _⟩ := hl.get hx
  injection e with e
  injection e with e1 e2 _
  subst e1 e2
  have v1 := toM_sm hp ha
  generalize atM l home k tick = p at *
  obtain ⟨px, py⟩ := p
  obtain ⟨mu, r, tr⟩ := x
  obtain ⟨⟨xl, xh⟩, yl, yh⟩ := a
  dsimp only at hb h0 h1 HA
  have q1 := qM_sm (r := r) ⟨hb.2.2.1, hb.2.2.2⟩ v1
  have HT := Lib.hid fun W => gTo_c px py xl xh yl yh W
  change Hid (∀ W, Calls _ _ _ W fun e w' => e = .returned (.tuple #[.agg #[.int .i64 (toM ⟨px, py⟩ ⟨⟨xl, xh⟩, yl, yh⟩).x.lo, .int .i64 (toM ⟨px, py⟩ ⟨⟨xl, xh⟩, yl, yh⟩).x.hi], .agg #[.int .i64 (toM ⟨px, py⟩ ⟨⟨xl, xh⟩, yl, yh⟩).y.lo, .int .i64 (toM ⟨px, py⟩ ⟨⟨xl, xh⟩, yl, yh⟩).y.hi]]) ∧ _) at HT
  unfold pullM
  dsimp only
  generalize toM ⟨px, py⟩ ⟨⟨xl, xh⟩, yl, yh⟩ = v at *
  obtain ⟨⟨vxl, vxh⟩, vyl, vyh⟩ := v
  have HD := Lib.hid fun (A : Option Addr) (n c : Nat) W => gDist_c mu r A n c vxl vxh vyl vyh W ⟨hb.2.2.1, hb.2.2.2⟩
  dsimp only at HT
  generalize qM r _ = q at *
  obtain ⟨ql, qh⟩ := q
  generalize rM _ = rr at *
  obtain ⟨rl, rh⟩ := rr
  have HS := Lib.hid fun (s t : Int) (h : (s = vxl ∧ t = vxh) ∨ (s = vyl ∧ t = vyh)) W => gScaled_c mu s t ql qh W ⟨hb.1, hb.2.1⟩ (by rcases h with ⟨rfl, rfl⟩ | ⟨rfl, rfl⟩; exact v1.1; exact v1.2) q1
  dsimp only at HD
  unfold towardM clampS
  dsimp only
  have hbl : b < w.heap.size := World.block_lt_of_cell? w _ h0
  have hbl1 : b < w.heap.size + 1 := by omega
  have hbl2 : b < w.heap.size + 1 + 1 := by omega
  have hbl3 : b < w.heap.size + 1 + 1 + 1 := by omega
  clear v1 q1 hb hp ha hl hx
  go_enter Tryz.func167, Tryz.ntmps167
  go_wp2_with fail
  refine name_world _ ?_
  intro W1 hW1
  obtain ⟨g, hg⟩ : ∃ g, g = w.heap.size := ⟨_, rfl⟩
  have B4 : Blk W1 g 24 #[.slice (some ⟨b, off, none⟩) n c, .int .i64 home] := by rw [hW1, hg]; exact (((Blk.newAt rfl).alloc _).alloc _).alloc _
  have B7 : Blk W1 (g + 1) 112 #[.int .i64 xl, .int .i64 xh, .int .i64 yl, .int .i64 yh] := by rw [hW1, hg]; exact ((Blk.newAt (by simp)).alloc _).alloc _
  have B8 : Blk W1 (g + 1 + 1) 112 #[.int .i64 0, .int .i64 0, .int .i64 0, .int .i64 0] := by rw [hW1, hg]; exact (Blk.newAt (by simp)).alloc _
  have B9 : Blk W1 (g + 1 + 1 + 1) 97 #[.int .i64 mu, .int .i64 r, .slice A' n' c'] := by rw [hW1, hg]; exact Blk.newAt (by simp)
  have E1 : Ext w W1 := by rw [hW1]; exact ext_by
  have og : w.heap.size ≤ g := by omega
  rw [← hg]
  clear hW1 hg hbl hbl1 hbl2 hbl3 h0 h1 h2
  have c_B4 := B4.cell; have f_B4 := B4.frozen; have l_B4 := B4.lt; have c_B7 := B7.cell; have f_B7 := B7.frozen; have l_B7 := B7.lt
  refine wp_region_gen [0, 1, 2, 3, 4, 5, 6, 7, 8] [9, 10] [11, 12] (Ext _) (Ext _) (Stable.ext _) (fun _ h => h) (Ext.drew (Ext.refl _)) (by kernel_rfl) (by kernel_rfl) ?_; simp only [pick, List.drop_succ_cons, List.drop_zero]; (repeat' (first | (refine bl_off (by rfl) ?_; simp only [putX]) | (apply bl_op; rfl; (intro w1 h1; obtain ⟨hc, hf, hz⟩ := bcell h1; go_simp; (try go_bits); (first | exact ⟨rfl, Ext.refl _⟩ | (apply gives_call; first | (go_at_call 209; exact HA.out _ ext_by) | (go_at_call 208; exact HT.out _)) | (go_invoke; go_simp; apply gives_call; first | (go_at_call 209; exact HA.out _ ext_by) | (go_at_call 208; exact HT.out _)))); simp only [putX]) | (refine bl_split rfl rfl (fun hx => ?_) (fun hx => ?_) <;> simp only [hx]))); refine bl_nil ?_; refine ag_two (e1 := 26) (e2 := 26) (zs1 := #[.int .i64 0, .int .i64 0]) (zs2 := #[.int .i64 0, .int .i64 0]) (Stable.ext _) (fun _ h => h) (by decide) rfl rfl (fun u v => rfl) (fun v w => ⟨by simp only [opAt]; go_simp, by simp only [opAt]; go_simp⟩) (fun v w => ⟨by simp only [opAt]; go_simp, by simp only [opAt]; go_simp⟩) (fun b10 b11 hb_b10 hb_b11 hne_b10 => ?_); (try simp only [opAt]); (try simp only [Act.put, List.setIfInBounds_toArray]); refine tg_skip (fun w => Ext _ w ∧ Blk w b10 26 #[.int .i64 vxl, .int .i64 vxh] ∧ Blk w b11 26 #[.int .i64 0, .int .i64 0]) rfl rfl ((Stable.ext _).and ((Stable.blk _ _ _).and (Stable.blk _ _ _))) (fun _ h => h.1) (fun wx hx => ?_) ?_; (focus (obtain ⟨hx, hB1, hB2⟩ := hx; have hcB := hB1.cell; have hfB := hB1.frozen; have hlB := hB1.lt; exact ⟨putC b10 wx 0 [.int .i64 vxl, .int .i64 vxh], (by simp only [putC, Nat.reduceAdd]; go_simp; try rfl), Ext.putC (by omega) _ 0 hx, (Blk.putAt hB1 rfl), (Blk.putFar (by omega) _ 0 hB2)⟩)); refine tg_skip (fun w => Ext _ w ∧ Blk w b10 26 #[.int .i64 vxl, .int .i64 vxh] ∧ Blk w b11 26 #[.int .i64 vyl, .int .i64 vyh]) rfl rfl ((Stable.ext _).and ((Stable.blk _ _ _).and (Stable.blk _ _ _))) (fun _ h => h.1) (fun wx hx => ?_) ?_; (focus (obtain ⟨hx, hB1, hB2⟩ := hx; have hcB := hB2.cell; have hfB := hB2.frozen; have hlB := hB2.lt; exact ⟨putC b11 wx 0 [.int .i64 vyl, .int .i64 vyh], (by simp only [putC, Nat.reduceAdd]; go_simp; try rfl), Ext.putC (by omega) _ 0 hx, (Blk.putFar (by omega) _ 0 hB1), (Blk.putAt hB2 rfl)⟩)); refine tg_nil ?_; rintro w2 ⟨hE_w2, hB_b10, hB_b11⟩
  simp only [Array.getD_eq_getD_getElem?, List.getElem?_toArray, List.getElem?_cons_succ, List.getElem?_cons_zero, Option.getD_some, List.setIfInBounds_toArray, List.set_cons_zero, List.set_cons_succ]
  clear c_B4 f_B4 l_B4 c_B7 f_B7 l_B7
  replace B8 := B8.ext hE_w2
  replace B9 := B9.ext hE_w2
  replace E1 : Ext w w2 := E1.trans hE_w2
  clear B4 B7 hE_w2 HA HT
  have c_B9 := B9.cell; have f_B9 := B9.frozen; have l_B9 := B9.lt; have c_hB_b10 := hB_b10.cell; have f_hB_b10 := hB_b10.frozen; have l_hB_b10 := hB_b10.lt; have c_hB_b11 := hB_b11.cell; have f_hB_b11 := hB_b11.frozen; have l_hB_b11 := hB_b11.lt
  go_wp2_with fail
  refine (HD.out _ _ _ _).mono ?_
  rintro e w3 ⟨rfl, h3⟩
  clear c_B9 f_B9 l_B9 c_hB_b10 f_hB_b10 l_hB_b10 c_hB_b11 f_hB_b11 l_hB_b11
  replace B8 := B8.ext h3
  replace B9 := B9.ext h3
  replace hB_b10 := hB_b10.ext h3
  replace hB_b11 := hB_b11.ext h3
  replace E1 : Ext w w3 := E1.trans h3
  clear h3
  go_wp2_with fail
  refine name_world _ ?_
  intro W4 hW4
  obtain ⟨g12, hg12⟩ : ∃ g, g = w3.heap.size := ⟨_, rfl⟩
  have B12 : Blk W4 g12 26 #[.int .i64 ql, .int .i64 qh] := by rw [hW4]; exact (Blk.newAt hg12).alloc _
  have B13 : Blk W4 (g12 + 1) 26 #[.int .i64 rl, .int .i64 rh] := by rw [hW4]; exact Blk.newAt (by simp [hg12])
  have E4 : Ext w3 W4 := by rw [hW4]; exact ext_by
  rw [← hg12]
  clear hW4 hg12
  replace B8 := B8.ext E4
  replace B9 := B9.ext E4
  replace hB_b10 := hB_b10.ext E4
  replace hB_b11 := hB_b11.ext E4
  replace E1 : Ext w W4 := E1.trans E4
  clear E4
  have c_B9 := B9.cell; have f_B9 := B9.frozen; have l_B9 := B9.lt; have c_hB_b10 := hB_b10.cell; have f_hB_b10 := hB_b10.frozen; have l_hB_b10 := hB_b10.lt; have c_hB_b11 := hB_b11.cell; have f_hB_b11 := hB_b11.frozen; have l_hB_b11 := hB_b11.lt; have c_B12 := B12.cell; have f_B12 := B12.frozen; have l_B12 := B12.lt; have c_B13 := B13.cell; have f_B13 := B13.frozen; have l_B13 := B13.lt
  refine wp_region_forced 17 (Ext _) (Stable.ext _) (Ext.drew (Ext.refl _)) (by kernel_rfl) (by kernel_rfl) ?_
  simp only [List.take_succ_cons, List.take_zero, List.drop_succ_cons, List.drop_zero]
  (repeat' (first | (refine bl_off (by rfl) ?_; simp only [putX]) | (apply bl_op; rfl; (intro w1 h1; obtain ⟨hc, hf, hz⟩ := bcell h1; go_simp; (try go_bits); (first | exact ⟨rfl, Ext.refl _⟩ | (apply gives_call; first | (go_at_call 213; exact HS.out _ _ (by first | exact .inl ⟨rfl, rfl⟩ | exact .inr ⟨rfl, rfl⟩) _) | (go_at_call 212; exact gQuotient_c _ _ _ _ _) | (go_at_call 211; exact gBounded_c _ _ _)) | (go_invoke; go_simp; apply gives_call; first | (go_at_call 213; exact HS.out _ _ (by first | exact .inl ⟨rfl, rfl⟩ | exact .inr ⟨rfl, rfl⟩) _) | (go_at_call 212; exact gQuotient_c _ _ _ _ _) | (go_at_call 211; exact gBounded_c _ _ _)))); simp only [putX]) | (refine bl_split rfl rfl (fun hx => ?_) (fun hx => ?_) <;> simp only [hx])))
  refine bl_nil ?_
  intro w5 h5
  clear c_B9 f_B9 l_B9 c_hB_b10 f_hB_b10 l_hB_b10 c_hB_b11 f_hB_b11 l_hB_b11 c_B12 f_B12 l_B12 c_B13 f_B13 l_B13
  replace B8 := B8.ext h5
  replace E1 : Ext w w5 := E1.trans h5
  clear h5 B9 hB_b10 hB_b11 B12 B13
  have c_B8 := B8.cell; have f_B8 := B8.frozen; have l_B8 := B8.lt
  go_wp2_with fail
  (try simp only [Exit.inBlock, Exit.then]); apply bodyPost_ret; (focus (simp only [results, Tryz.results167]; go_simp; try rfl)); rfl
  exact ⟨rfl, ext_by⟩
end Go.Proofs.YtfniicgoeljmdaaGreat

namespace Go.Proofs.YtfniicgoeljmdaaGreat
open Go.RowKit

theorem bodies_some {w : World} {A : Option Addr} {n : Nat} {l : List Body} (hl : Bodies w A n l) (h : l ≠ []) : ∃ b off x, A = some ⟨b, off, none⟩ ∧ l[0]? = some x ∧ l.getD 0 ⟨0, 0, []⟩ = x ∧ x ∈ l := by
  obtain ⟨y, r, rfl⟩ := List.exists_cons_of_ne_nil h
  obtain ⟨b, off, hA, _⟩ := hl.at_ (by simp)
  exact ⟨b, off, y, hA, rfl, rfl, by simp⟩
set_option maxRecDepth 20000 in
set_option maxHeartbeats 4000000 in
theorem gLight_c (A : Option Addr) (n c : Nat) (home : Int) (l : List Body) (d : Drf) (tick : Int) (a : Ar) (w : World) (hl : Bodies w A n l) (h0 : fAskErr l home d tick a = 0) :
    Calls Tryz.prog 165 #[.agg #[.slice A n c, .int .i64 home], .agg #[.int .i64 d.light.lo, .int .i64 d.light.hi, .int .i64 d.heat.lo, .int .i64 d.heat.hi, .int .i64 d.gas], .int .i64 tick, .agg #[.int .i64 a.x.lo, .int .i64 a.x.hi, .int .i64 a.y.lo, .int .i64 a.y.hi]] w fun e w' =>
      e = .returned (.tuple #[arV (lightM d (sunM l home tick a)), .int .i64 0]) ∧ Ext w w' := by
  obtain ⟨k1, k2, k3, k4⟩ := fAsk_ok h0
  obtain ⟨m1, m2, m3⟩ := wld_bodies k1
  obtain ⟨b, off, x, rfl, hx, hxd, hxm⟩ := bodies_some hl m1
  have H := Lib.hid fun W (hW : Ext w W) => gAsked_c (some ⟨b, off, none⟩) n c home l d.light.lo d.light.hi d.heat.lo d.heat.hi d.gas tick a.x.lo a.x.hi a.y.lo a.y.hi W (Bodies.ext hW hl)
  rw [show fAskErr l home ⟨⟨d.light.lo, d.light.hi⟩, ⟨d.heat.lo, d.heat.hi⟩, d.gas⟩ tick ⟨⟨a.x.lo, a.x.hi⟩, ⟨a.y.lo, a.y.hi⟩⟩ = 0 from h0] at H
  have HO : Hid (∀ W, Ext w W → Calls Tryz.prog 167 #[.agg #[.slice (some ⟨b, off, none⟩) n c, .int .i64 home], .int .i64 0, .int .i64 tick, .agg #[.int .i64 a.x.lo, .int .i64 a.x.hi, .int .i64 a.y.lo, .int .i64 a.y.hi]] W fun e w' => e = .returned (arV (sunM l home tick a)) ∧ Ext W w') := by
    refine Lib.hid fun W hW => ?_
    have := gOne_c b off n c home l 0 x tick a W (Bodies.ext hW hl) hx (m3 x hxm) k4
    unfold sunM
    rw [hxd]
    exact this
  generalize sunM l home tick a = s at *
  obtain ⟨⟨ll, lh⟩, ⟨el, eh⟩, g⟩ := d
  obtain ⟨⟨sxl, sxh⟩, syl, syh⟩ := s
  obtain ⟨⟨xl, xh⟩, yl, yh⟩ := a
  unfold lightM minusS
  dsimp only at *
  clear h0 k1 k2 k3 k4 m1 m2 m3 hl hx hxd hxm
  go_enter Tryz.func165, Tryz.ntmps165
  go_wp2_with fail
  refine (H.out _ ext_by).mono ?_
  rintro e w1 ⟨rfl, h1⟩
  have B4 : Blk w1 w.heap.size 24 #[.slice (some ⟨b, off, none⟩) n c, .int .i64 home] := ((((Blk.newAt rfl).alloc _).alloc _).alloc _).ext h1
  have B5 : Blk w1 (w.heap.size + 1) 28 #[.int .i64 ll, .int .i64 lh, .int .i64 el, .int .i64 eh, .int .i64 g] := (((Blk.newAt (by simp)).alloc _).alloc _).ext h1
  have B7 : Blk w1 (w.heap.size + 1 + 1) 112 #[.int .i64 xl, .int .i64 xh, .int .i64 yl, .int .i64 yh] := ((Blk.newAt (by simp)).alloc _).ext h1
  have B8 : Blk w1 (w.heap.size + 1 + 1 + 1) 112 #[.int .i64 0, .int .i64 0, .int .i64 0, .int .i64 0] := (Blk.newAt (by simp)).ext h1
  have E : Ext w w1 := ext_by
  clear h1
  have c_B4 := B4.cell; have f_B4 := B4.frozen; have l_B4 := B4.lt; have c_B5 := B5.cell; have f_B5 := B5.frozen; have l_B5 := B5.lt; have c_B7 := B7.cell; have f_B7 := B7.frozen; have l_B7 := B7.lt; have c_B8 := B8.cell; have f_B8 := B8.frozen; have l_B8 := B8.lt
  go_wp2_with fail
  refine (HO.out _ ext_by).mono ?_
  rintro e w2 ⟨rfl, h2⟩
  clear c_B4 f_B4 l_B4 c_B5 f_B5 l_B5 c_B7 f_B7 l_B7 c_B8 f_B8 l_B8
  replace B5 := B5.ext h2
  replace B8 := B8.ext h2
  replace E := E.trans h2
  clear B4 B7 h2
  go_wp2_with fail
  refine name_world _ ?_
  intro W3 hW3
  obtain ⟨g11, hg11⟩ : ∃ g, g = w2.heap.size := ⟨_, rfl⟩
  have B11 : Blk W3 g11 112 #[.int .i64 sxl, .int .i64 sxh, .int .i64 syl, .int .i64 syh] := by rw [hW3]; exact Blk.newAt hg11
  have E3 : Ext w2 W3 := by rw [hW3]; exact ext_by
  rw [← hg11]
  clear hW3 hg11
  replace B5 := B5.ext E3
  replace B8 := B8.ext E3
  replace E := E.trans E3
  clear E3
  have c_B5 := B5.cell; have f_B5 := B5.frozen; have l_B5 := B5.lt; have c_B8 := B8.cell; have f_B8 := B8.frozen; have l_B8 := B8.lt; have c_B11 := B11.cell; have f_B11 := B11.frozen; have l_B11 := B11.lt
  refine wp_region_forced 13 (Ext _) (Stable.ext _) (Ext.drew (Ext.refl _)) (by kernel_rfl) (by kernel_rfl) ?_
  simp only [List.take_succ_cons, List.take_zero, List.drop_succ_cons, List.drop_zero]
  (repeat' (first | (refine bl_off (by rfl) ?_; simp only [putX]) | (apply bl_op; rfl; (intro w1 h1; obtain ⟨hc, hf, hz⟩ := bcell h1; go_simp; (try go_bits); (first | exact ⟨rfl, Ext.refl _⟩ | (apply gives_call; first | (go_at_call 207; exact gThousandth_c _ _ _ _ _) | (go_at_call 206; exact gMinus_c _ _ _ (part_bd _ _))) | (go_invoke; go_simp; apply gives_call; first | (go_at_call 207; exact gThousandth_c _ _ _ _ _) | (go_at_call 206; exact gMinus_c _ _ _ (part_bd _ _))))); simp only [putX]) | (refine bl_split rfl rfl (fun hx => ?_) (fun hx => ?_) <;> simp only [hx])))
  refine bl_nil ?_
  intro w3 h3
  obtain ⟨hc_w3, hf_w3, hz_w3⟩ := bcell h3; (try simp only [szA] at hz_w3); (try have := wz0 w w3); (try have := wz1 w w3); (try have := wz2 w w3); (try have := wz3 w w3); (try have := wz4 w w3)
  go_wp2_with fail
  (try simp only [Exit.inBlock, Exit.then]); apply bodyPost_ret; (focus (simp only [results, Tryz.results165]; go_simp; try rfl)); rfl
  exact ⟨rfl, ext_by⟩
set_option maxRecDepth 20000 in
set_option maxHeartbeats 4000000 in
theorem gHeat_c (A : Option Addr) (n c : Nat) (home : Int) (l : List Body) (d : Drf) (tick : Int) (a : Ar) (w : World) (hl : Bodies w A n l) (h0 : fAskErr l home d tick a = 0) :
    Calls Tryz.prog 166 #[.agg #[.slice A n c, .int .i64 home], .agg #[.int .i64 d.light.lo, .int .i64 d.light.hi, .int .i64 d.heat.lo, .int .i64 d.heat.hi, .int .i64 d.gas], .int .i64 tick, .agg #[.int .i64 a.x.lo, .int .i64 a.x.hi, .int .i64 a.y.lo, .int .i64 a.y.hi]] w fun e w' =>
      e = .returned (.tuple #[arV (heatM d (sunM l home tick a)), .int .i64 0]) ∧ Ext w w' := by
  obtain ⟨k1, k2, k3, k4⟩ := fAsk_ok h0
  obtain ⟨m1, m2, m3⟩ := wld_bodies k1
  obtain ⟨b, off, x, rfl, hx, hxd, hxm⟩ := bodies_some hl m1
  have H := Lib.hid fun W (hW : Ext w W) => gAsked_c (some ⟨b, off, none⟩) n c home l d.light.lo d.light.hi d.heat.lo d.heat.hi d.gas tick a.x.lo a.x.hi a.y.lo a.y.hi W (Bodies.ext hW hl)
  rw [show fAskErr l home ⟨⟨d.light.lo, d.light.hi⟩, ⟨d.heat.lo, d.heat.hi⟩, d.gas⟩ tick ⟨⟨a.x.lo, a.x.hi⟩, ⟨a.y.lo, a.y.hi⟩⟩ = 0 from h0] at H
  have HO : Hid (∀ W, Ext w W → Calls Tryz.prog 167 #[.agg #[.slice (some ⟨b, off, none⟩) n c, .int .i64 home], .int .i64 0, .int .i64 tick, .agg #[.int .i64 a.x.lo, .int .i64 a.x.hi, .int .i64 a.y.lo, .int .i64 a.y.hi]] W fun e w' => e = .returned (arV (sunM l home tick a)) ∧ Ext W w') := by
    refine Lib.hid fun W hW => ?_
    have := gOne_c b off n c home l 0 x tick a W (Bodies.ext hW hl) hx (m3 x hxm) k4
    unfold sunM
    rw [hxd]
    exact this
  generalize sunM l home tick a = s at *
  obtain ⟨⟨ll, lh⟩, ⟨el, eh⟩, g⟩ := d
  obtain ⟨⟨sxl, sxh⟩, syl, syh⟩ := s
  obtain ⟨⟨xl, xh⟩, yl, yh⟩ := a
  unfold heatM minusS
  dsimp only at *
  clear h0 k1 k2 k3 k4 m1 m2 m3 hl hx hxd hxm
  go_enter Tryz.func166, Tryz.ntmps166
  go_wp2_with fail
  refine (H.out _ ext_by).mono ?_
  rintro e w1 ⟨rfl, h1⟩
  have B4 : Blk w1 w.heap.size 24 #[.slice (some ⟨b, off, none⟩) n c, .int .i64 home] := ((((Blk.newAt rfl).alloc _).alloc _).alloc _).ext h1
  have B5 : Blk w1 (w.heap.size + 1) 28 #[.int .i64 ll, .int .i64 lh, .int .i64 el, .int .i64 eh, .int .i64 g] := (((Blk.newAt (by simp)).alloc _).alloc _).ext h1
  have B7 : Blk w1 (w.heap.size + 1 + 1) 112 #[.int .i64 xl, .int .i64 xh, .int .i64 yl, .int .i64 yh] := ((Blk.newAt (by simp)).alloc _).ext h1
  have B8 : Blk w1 (w.heap.size + 1 + 1 + 1) 112 #[.int .i64 0, .int .i64 0, .int .i64 0, .int .i64 0] := (Blk.newAt (by simp)).ext h1
  have E : Ext w w1 := ext_by
  clear h1
  have c_B4 := B4.cell; have f_B4 := B4.frozen; have l_B4 := B4.lt; have c_B5 := B5.cell; have f_B5 := B5.frozen; have l_B5 := B5.lt; have c_B7 := B7.cell; have f_B7 := B7.frozen; have l_B7 := B7.lt; have c_B8 := B8.cell; have f_B8 := B8.frozen; have l_B8 := B8.lt
  go_wp2_with fail
  refine (HO.out _ ext_by).mono ?_
  rintro e w2 ⟨rfl, h2⟩
  clear c_B4 f_B4 l_B4 c_B5 f_B5 l_B5 c_B7 f_B7 l_B7 c_B8 f_B8 l_B8
  replace B5 := B5.ext h2
  replace B8 := B8.ext h2
  replace E := E.trans h2
  clear B4 B7 h2
  go_wp2_with fail
  refine name_world _ ?_
  intro W3 hW3
  obtain ⟨g11, hg11⟩ : ∃ g, g = w2.heap.size := ⟨_, rfl⟩
  have B11 : Blk W3 g11 112 #[.int .i64 sxl, .int .i64 sxh, .int .i64 syl, .int .i64 syh] := by rw [hW3]; exact Blk.newAt hg11
  have E3 : Ext w2 W3 := by rw [hW3]; exact ext_by
  rw [← hg11]
  clear hW3 hg11
  replace B5 := B5.ext E3
  replace B8 := B8.ext E3
  replace E := E.trans E3
  clear E3
  have c_B5 := B5.cell; have f_B5 := B5.frozen; have l_B5 := B5.lt; have c_B8 := B8.cell; have f_B8 := B8.frozen; have l_B8 := B8.lt; have c_B11 := B11.cell; have f_B11 := B11.frozen; have l_B11 := B11.lt
  refine wp_region_forced 12 (Ext _) (Stable.ext _) (Ext.drew (Ext.refl _)) (by kernel_rfl) (by kernel_rfl) ?_
  simp only [List.take_succ_cons, List.take_zero, List.drop_succ_cons, List.drop_zero]
  (repeat' (first | (refine bl_off (by rfl) ?_; simp only [putX]) | (apply bl_op; rfl; (intro w1 h1; obtain ⟨hc, hf, hz⟩ := bcell h1; go_simp; (try go_bits); (first | exact ⟨rfl, Ext.refl _⟩ | (apply gives_call; first | (go_at_call 207; exact gThousandth_c _ _ _ _ _) | (go_at_call 206; exact gMinus_c _ _ _ (part_bd _ _))) | (go_invoke; go_simp; apply gives_call; first | (go_at_call 207; exact gThousandth_c _ _ _ _ _) | (go_at_call 206; exact gMinus_c _ _ _ (part_bd _ _))))); simp only [putX]) | (refine bl_split rfl rfl (fun hx => ?_) (fun hx => ?_) <;> simp only [hx])))
  refine bl_nil ?_
  intro w3 h3
  obtain ⟨hc_w3, hf_w3, hz_w3⟩ := bcell h3; (try simp only [szA] at hz_w3); (try have := wz0 w w3); (try have := wz1 w w3); (try have := wz2 w w3); (try have := wz3 w w3); (try have := wz4 w w3)
  go_wp2_with fail
  (try simp only [Exit.inBlock, Exit.then]); apply bodyPost_ret; (focus (simp only [results, Tryz.results166]; go_simp; try rfl)); rfl
  exact ⟨rfl, ext_by⟩
end Go.Proofs.YtfniicgoeljmdaaGreat

namespace Go.Proofs.YtfniicgoeljmdaaGreat
open Go.RowKit

theorem info_area : (Tryz.prog.info? 112).map (fun i => (i.zero, i.size, i.bytes)) = some (some (.agg #[.int .i64 0, .int .i64 0, .int .i64 0, .int .i64 0]), 4, 32) := by kernel_rfl
theorem ar_len (x : Ar) : (arC x).length = 4 := rfl
theorem own_far {w : World} {base gb n cap m b i : Nat} {e : TypeId} {sz : Nat} {xs : List Value} {u : Value} (h : w.ownsRow base e sz (.slice (some ⟨gb, 0, none⟩) n cap) m xs) (hne : gb ≠ b) : (w.setCell ⟨b, i, none⟩ u).ownsRow base e sz (.slice (some ⟨gb, 0, none⟩) n cap) m xs :=
  own_set h (fun e => hne (Option.some.inj (by simpa [Value.ownBlock] using e))) u
theorem over_ref (l : List Body) (home : Int) (d : Drf) (tick : Int) (a : Ar) : (lightM d (sunM l home tick a) :: heatM d (sunM l home tick a) :: (pullsM l home tick a).map (·.2)).foldl sumA (gasM d) = overA l home d tick a := by
  unfold overA sumL
  rw [List.foldl_cons, List.foldl_cons, List.foldl_map]
theorem pulls_get (l : List Body) (home tick : Int) (a : Ar) : ∀ (r : List Body) (j k : Nat) (x : Body), r[k]? = some x → ((pullsF l home tick a r j).map (·.2))[k]? = some (pullM x (atM l home ((j + k : Nat) : Int) tick) a)
  | [], j, k, x, h => by simp at h
  | b :: r, j, 0, x, h => by
    simp at h
    subst h
    simp [pullsF]
  | b :: r, j, k + 1, x, h => by
    rw [pullsF, List.map_cons, List.getElem?_cons_succ, pulls_get l home tick a r (j + 1) k x (by simpa using h)]
    rw [show j + 1 + k = j + (k + 1) by omega]
set_option maxRecDepth 20000 in
set_option maxHeartbeats 1000000 in
theorem gOver_no (A : Option Addr) (n c : Nat) (home : Int) (l : List Body) (d : Drf) (tick : Int) (a : Ar) (w : World) (hl : Bodies w A n l) (h0 : fAskErr l home d tick a ≠ 0) :
    Calls Tryz.prog 125 #[.agg #[.slice A n c, .int .i64 home], .agg #[.int .i64 d.light.lo, .int .i64 d.light.hi, .int .i64 d.heat.lo, .int .i64 d.heat.hi, .int .i64 d.gas], .int .i64 tick, .agg #[.int .i64 a.x.lo, .int .i64 a.x.hi, .int .i64 a.y.lo, .int .i64 a.y.hi]] w fun e w' =>
      e = .returned (.tuple #[.agg #[.int .i64 0, .int .i64 0, .int .i64 0, .int .i64 0], .int .i64 (fAskErr l home d tick a)]) ∧ Ext w w' := by
  have H := Lib.hid fun W (hW : Ext w W) => gAsked_c A n c home l d.light.lo d.light.hi d.heat.lo d.heat.hi d.gas tick a.x.lo a.x.hi a.y.lo a.y.hi W (Bodies.ext hW hl)
  change Hid (∀ W, Ext w W → Calls _ _ _ W fun e w' => e = .returned (.int .i64 (fAskErr l home d tick a)) ∧ _) at H
  obtain ⟨⟨ll, lh⟩, ⟨el, eh⟩, g⟩ := d
  obtain ⟨⟨xl, xh⟩, yl, yh⟩ := a
  generalize fAskErr _ _ _ _ _ = E at *
  dsimp only at *
  clear hl
  go_enter Tryz.func125, Tryz.ntmps125
  go_wp2_with fail
  refine (H.out _ ext_by).mono ?_
  rintro e w1 ⟨rfl, h1⟩
  obtain ⟨hc_w1, hf_w1, hz_w1⟩ := bcell h1; (try simp only [szA] at hz_w1); (try have := wz0 w w1); (try have := wz1 w w1); (try have := wz2 w w1); (try have := wz3 w w1); (try have := wz4 w w1)
  go_wp2_with fail
  (try simp only [Exit.inBlock, Exit.then]); apply bodyPost_ret; (focus (simp only [results, Tryz.results125]; go_simp; try rfl)); rfl
  exact ⟨rfl, ext_by⟩
set_option maxRecDepth 20000 in
set_option maxHeartbeats 8000000 in
theorem gOver_ok (A : Option Addr) (n c : Nat) (home : Int) (l : List Body) (d : Drf) (tick : Int) (a : Ar) (w : World) (hl : Bodies w A n l) (h0 : fAskErr l home d tick a = 0) :
    Calls Tryz.prog 125 #[.agg #[.slice A n c, .int .i64 home], .agg #[.int .i64 d.light.lo, .int .i64 d.light.hi, .int .i64 d.heat.lo, .int .i64 d.heat.hi, .int .i64 d.gas], .int .i64 tick, .agg #[.int .i64 a.x.lo, .int .i64 a.x.hi, .int .i64 a.y.lo, .int .i64 a.y.hi]] w fun e w' =>
      e = .returned (.tuple #[arV (overA l home d tick a), .int .i64 0]) ∧ Ext w w' := by
  obtain ⟨k1, k2, k3, k4⟩ := fAsk_ok h0
  obtain ⟨m1, m2, m3⟩ := wld_bodies k1
  obtain ⟨b, off, x0, rfl, _, _, _⟩ := bodies_some hl m1
  have hn := hl.le
  have hgas := gasM_sm k2
  have hdr := driftErr_ok k2
  obtain ⟨ia, hia, ha0, ha1, ha2⟩ := info_parts info_area
  have H := Lib.hid fun W (hW : Ext w W) => gAsked_c (some ⟨b, off, none⟩) n c home l d.light.lo d.light.hi d.heat.lo d.heat.hi d.gas tick a.x.lo a.x.hi a.y.lo a.y.hi W (Bodies.ext hW hl)
  rw [show fAskErr l home ⟨⟨d.light.lo, d.light.hi⟩, ⟨d.heat.lo, d.heat.hi⟩, d.gas⟩ tick ⟨⟨a.x.lo, a.x.hi⟩, ⟨a.y.lo, a.y.hi⟩⟩ = 0 from h0] at H
  have HLI := Lib.hid fun W (hW : Ext w W) => gLight_c (some ⟨b, off, none⟩) n c home l d tick a W (Bodies.ext hW hl) h0
  have HHE := Lib.hid fun W (hW : Ext w W) => gHeat_c (some ⟨b, off, none⟩) n c home l d tick a W (Bodies.ext hW hl) h0
  have hln := hl.len
  obtain ⟨PS, hPS⟩ : ∃ PS, PS = (pullsM l home tick a).map (·.2) := ⟨_, rfl⟩
  have hPl : PS.length = n := by rw [hPS, List.length_map, pullsM, pullsF_len, hln]
  have hPs : ∀ p ∈ PS, SmA 1048576 p := by
    intro p hp
    rw [hPS] at hp
    obtain ⟨q, hq, rfl⟩ := List.mem_map.1 hp
    exact pullsF_sm l home tick a l 0 q hq
  have HO : Hid (∀ (k : Nat), k < n → ∃ y : Ar, PS[k]? = some y ∧ ∀ W, Ext w W → Calls Tryz.prog 167 #[.agg #[.slice (some ⟨b, off, none⟩) n c, .int .i64 home], .int .i64 (k : Int), .int .i64 tick, .agg #[.int .i64 a.x.lo, .int .i64 a.x.hi, .int .i64 a.y.lo, .int .i64 a.y.hi]] W fun e w' => e = .returned (arV y) ∧ Ext W w') := by
    refine Lib.hid fun k hk => ?_
    have hk' : k < l.length := by rw [← hln]; exact hk
    have h1 : l[k]? = some l[k] := List.getElem?_eq_getElem hk'
    refine ⟨pullM l[k] (atM l home k tick) a, ?_, fun W hW => gOne_c b off n c home l k l[k] tick a W (Bodies.ext hW hl) h1 (m3 _ (List.getElem_mem hk')) k4⟩
    rw [hPS]
    have h2 := pulls_get l home tick a l 0 k _ h1
    rw [Nat.zero_add] at h2
    exact h2
  have hT := over_ref l home d tick a
  rw [← hPS] at hT
  have hL1 := lightM_sm d (sunM l home tick a)
  have hL2 := heatM_sm d (sunM l home tick a)
  generalize overA l home d tick a = T at *
  generalize lightM d (sunM l home tick a) = li at *
  generalize heatM d (sunM l home tick a) = he at *
  have HSM : Hid (∀ y ∈ li :: he :: PS, SmA 1152921504606847 y) := by
    refine Lib.hid fun y hy => ?_
    rcases List.mem_cons.1 hy with rfl | hy
    · exact hL1
    · rcases List.mem_cons.1 hy with rfl | hy
      · exact hL2
      · exact (hPs y hy).mono (by omega)
  have HT := Lib.hid hT
  have HPl := Lib.hid hPl
  have HGas := Lib.hid hgas
  have hn8 : n ≤ 8 := by omega
  obtain ⟨hd1, hd2, hd3, hd4, hd5⟩ := hdr
  clear hPS hPs hPl hT hL1 hL2 hgas h0 k1 k2 k3 k4 m1 m2 m3 hl hln hd1 hd2 hd3
  obtain ⟨⟨ll, lh⟩, ⟨el, eh⟩, g⟩ := d
  obtain ⟨⟨lxl, lxh⟩, lyl, lyh⟩ := li
  obtain ⟨⟨exl, exh⟩, eyl, eyh⟩ := he
  obtain ⟨⟨xl, xh⟩, yl, yh⟩ := a
  dsimp only at *
  unfold gasM at HT HGas
  dsimp only at HT HGas
  go_enter Tryz.func125, Tryz.ntmps125
  go_wp2_with fail
  refine (H.out _ ext_by).mono ?_
  rintro e w1 ⟨rfl, h1⟩
  have B4 : Blk w1 w.heap.size 24 #[.slice (some ⟨b, off, none⟩) n c, .int .i64 home] := ((((Blk.newAt rfl).alloc _).alloc _).alloc _).ext h1
  have B5 : Blk w1 (w.heap.size + 1) 28 #[.int .i64 ll, .int .i64 lh, .int .i64 el, .int .i64 eh, .int .i64 g] := (((Blk.newAt (by simp)).alloc _).alloc _).ext h1
  have B7 : Blk w1 (w.heap.size + 1 + 1) 112 #[.int .i64 xl, .int .i64 xh, .int .i64 yl, .int .i64 yh] := ((Blk.newAt (by simp)).alloc _).ext h1
  have B8 : Blk w1 (w.heap.size + 1 + 1 + 1) 112 #[.int .i64 0, .int .i64 0, .int .i64 0, .int .i64 0] := (Blk.newAt (by simp)).ext h1
  have E : Ext w w1 := ext_by
  clear h1 H
  have c_B4 := B4.cell; have f_B4 := B4.frozen; have l_B4 := B4.lt; have c_B5 := B5.cell; have f_B5 := B5.frozen; have l_B5 := B5.lt; have c_B7 := B7.cell; have f_B7 := B7.frozen; have l_B7 := B7.lt; have c_B8 := B8.cell; have f_B8 := B8.frozen; have l_B8 := B8.lt
  go_wp2_with fail
  refine (HLI.out _ ext_by).mono ?_
  rintro e w2 ⟨rfl, h2⟩
  obtain ⟨q, hq⟩ : ∃ q, q = w1.heap.size := ⟨_, rfl⟩
  have B12 : Blk w2 (q + 1) 112 #[.int .i64 (-g), .int .i64 g, .int .i64 (-g), .int .i64 g] := by rw [hq]; exact (Blk.newAt (by simp)).ext h2
  have h12 : Ext w1 w2 := Ext.trans ext_by h2
  have oq : w.heap.size + 1 + 1 + 1 < q := by have := B8.lt; omega
  have oq2 : q + 1 < w2.heap.size := B12.lt
  rw [← hq]
  clear c_B4 f_B4 l_B4 c_B5 f_B5 l_B5 c_B7 f_B7 l_B7 c_B8 f_B8 l_B8
  replace B4 := B4.ext h12
  replace B5 := B5.ext h12
  replace B7 := B7.ext h12
  replace B8 := B8.ext h12
  replace E := E.trans h12
  clear h2 h12 hq HLI
  have c_B4 := B4.cell; have f_B4 := B4.frozen; have l_B4 := B4.lt; have c_B5 := B5.cell; have f_B5 := B5.frozen; have l_B5 := B5.lt; have c_B7 := B7.cell; have f_B7 := B7.frozen; have l_B7 := B7.lt
  go_wp2_with fail
  refine (HHE.out _ ext_by).mono ?_
  rintro e w3 ⟨rfl, h3⟩
  obtain ⟨r, hr⟩ : ∃ r, r = w2.heap.size := ⟨_, rfl⟩
  have B13 : Blk w3 r 112 #[.int .i64 lxl, .int .i64 lxh, .int .i64 lyl, .int .i64 lyh] := (Blk.newAt hr).ext h3
  have h23 : Ext w2 w3 := Ext.trans ext_by h3
  have or_ : q + 1 < r := by omega
  rw [← hr]
  clear c_B4 f_B4 l_B4 c_B5 f_B5 l_B5 c_B7 f_B7 l_B7
  replace B4 := B4.ext h23
  replace B7 := B7.ext h23
  replace B8 := B8.ext h23
  replace B12 := B12.ext h23
  replace E := E.trans h23
  have or2 : r < w3.heap.size := B13.lt
  clear h3 h23 hr HHE B5
  have c_B13 := B13.cell; have f_B13 := B13.frozen; have l_B13 := B13.lt
  go_wp2_with fail
  refine name_world _ ?_
  intro W4 hW4
  have HW4 : Hid (W4.ownsRow w3.heap.size 112 4 (.slice (some ⟨w3.heap.size + 1, 0, none⟩) 2 2) (2 + 0) (((⟨⟨lxl, lxh⟩, lyl, lyh⟩ : Ar) :: ⟨⟨exl, exh⟩, eyl, eyh⟩ :: PS.take 0).flatMap arC)) := by
    rw [hW4]
    have := World.ownsRow_lit (base := w3.heap.size) (e := 112) (size := 4) (w3.alloc (.cells #[.int .i64 exl, .int .i64 exh, .int .i64 eyl, .int .i64 eyh] 112)) #[.int .i64 lxl, .int .i64 lxh, .int .i64 lyl, .int .i64 lyh, .int .i64 exl, .int .i64 exh, .int .i64 eyl, .int .i64 eyh] 2 (by simp) (by unfold maxLen; omega) rfl
    have e : (w3.alloc (.cells #[.int .i64 exl, .int .i64 exh, .int .i64 eyl, .int .i64 eyh] 112)).heap.size = w3.heap.size + 1 := by simp
    rw [e] at this
    exact this
  have E4 : Ext w3 W4 := by rw [hW4]; exact ext_by
  clear c_B13 f_B13 l_B13
  clear hW4 B13
  go_loopw [17, 18] (fun ps i wr => ∃ k : Nat, k ≤ n ∧ i = .int .i64 k ∧ Hid (wr.ownsRow w3.heap.size 112 4 ps (2 + k) (((⟨⟨lxl, lxh⟩, lyl, lyh⟩ : Ar) :: ⟨⟨exl, exh⟩, eyl, eyh⟩ :: PS.take k).flatMap arC)) ∧ Ext w3 wr) (fun _ i _ => n - (intOf i).toNat)
  case atStart => exact ⟨0, Nat.zero_le _, rfl, HW4, E4⟩
  case round =>
    clear HW4 E4
    obtain ⟨k, hk, rfl, HOW, hb⟩ := hrel
    have C4 := B4.ext hb
    have C7 := B7.ext hb
    have EE := E.trans hb
    have hz := hb.size
    by_cases hlt : k < n
    · obtain ⟨y, hy, hY⟩ := HO.out k hlt
      have HY := Lib.hid hY
      have htk : PS.take (k + 1) = PS.take k ++ [y] := by rw [List.take_add_one, hy]; rfl
      have HTK := Lib.hid htk
      clear hY htk hy
      obtain ⟨⟨yxl, yxh⟩, yyl, yyh⟩ := y
      have c_C4 := C4.cell; have f_C4 := C4.frozen; have l_C4 := C4.lt; have c_C7 := C7.cell; have f_C7 := C7.frozen; have l_C7 := C7.lt
      go_wp2_with fail
      refine (HY.out _ EE).mono ?_
      rintro e w5 ⟨rfl, h5⟩
      have HO5 := Lib.hid (own_ext_keep HOW.out h5)
      have E5 := hb.trans h5
      have hz5 := E5.size
      clear c_C4 f_C4 l_C4 c_C7 f_C7 l_C7
      clear h5 HOW C4 C7 HY
      go_wp2_with (at_builtin; go_loud (refine wpList_append_sl rfl (.tmp 64) (.tmp 70) 197 rfl w3.heap.size 112 ia _ 4 32 Tryz.underlying197 hia ha0 ha1 ha2 rfl (by decide) _ (2 + k) _ rfl (own_ext_keep HO5.out ext_by) (some ⟨_, 0, none⟩) 1 1 [.int .i64 yxl, .int .i64 yxh, .int .i64 yyl, .int .i64 yyh] rfl rfl (.inr ⟨_, rfl, new_cells rfl⟩) (by simp [Value.oneCell']) (by unfold maxLen; omega) (by omega) (by simp only [World.size_alloc]; omega) ?_))
      intro v' w6 ho6 hg6 _
      have e6 : Ext w3 w6 := own_ext (E5.alloc _) (own_ext_keep HO5.out (Ext.alloc0 _ _)) hg6 (Nat.le_refl _)
      have HO6 : Hid (w6.ownsRow w3.heap.size 112 4 v' (2 + (k + 1)) (((⟨⟨lxl, lxh⟩, lyl, lyh⟩ : Ar) :: ⟨⟨exl, exh⟩, eyl, eyh⟩ :: PS.take (k + 1)).flatMap arC)) := by
        rw [HTK.out, show 2 + (k + 1) = 2 + k + 1 by omega, ← List.cons_append, ← List.cons_append, List.flatMap_append]
        exact ho6
      clear ho6 hg6 HO5 E5
      go_wp2_with fail
      go_roundw
      case rel => exact ⟨k + 1, by omega, by go_num, HO6, e6⟩
      case measure => simp [intOf]; omega
    · have hkn : k = n := by omega
      have hps : PS.take k = PS := by rw [hkn, ← HPl.out, List.take_length]
      obtain ⟨gb, cap, rfl, hgb, _⟩ := own_some HOW.out (by
        rintro rfl
        rcases HOW.out.2 with ⟨_, h0⟩ | ⟨_, _, _, h0, _⟩
        · omega
        · cases h0)
      obtain ⟨L, hL⟩ : ∃ L, L = (⟨⟨lxl, lxh⟩, lyl, lyh⟩ : Ar) :: ⟨⟨exl, exh⟩, eyl, eyh⟩ :: PS := ⟨_, rfl⟩
      have hLl : 2 + k = L.length := by rw [hL, List.length_cons, List.length_cons, HPl.out, hkn]; omega
      have HOW2 : Hid (wr.ownsRow w3.heap.size 112 4 (.slice (some ⟨gb, 0, none⟩) (2 + k) cap) L.length (L.flatMap arC)) := by
        have h := HOW.out
        rw [hps, ← hL, hLl] at h
        rw [hLl]
        exact h
      have HT2 : Hid (L.foldl sumA ⟨⟨-g, g⟩, -g, g⟩ = T) := by rw [hL]; exact HT.out
      have HSM2 : Hid (∀ y ∈ L, SmA 1152921504606847 y) := by rw [hL]; exact HSM.out
      have HLl := Lib.hid hLl
      have C12 := B12.ext hb
      have C8 := B8.ext hb
      have hk2 : 2 + k ≤ 10 := by omega
      clear HOW hps hL hLl HT HSM HO C7 hkn
      have c_C4 := C4.cell; have f_C4 := C4.frozen; have l_C4 := C4.lt
      go_wp2_with fail
      clear c_C4 f_C4 l_C4
      clear C4
      obtain ⟨wo, rfl⟩ : ∃ wo : World, wo = wr := ⟨_, rfl⟩
      go_loopw [19] (fun i wr => ∃ (j : Nat) (o : Ar), j ≤ 2 + k ∧ i = .int .i64 j ∧ Hid ((L.drop j).foldl sumA o = T) ∧ Hid (SmA (1000 + 1152921504606847 * j) o) ∧ Hid (wr.ownsRow w3.heap.size 112 4 (.slice (some ⟨gb, 0, none⟩) (2 + k) cap) L.length (L.flatMap arC)) ∧ Hid (Blk wr (q + 1) 112 #[.int .i64 o.x.lo, .int .i64 o.x.hi, .int .i64 o.y.lo, .int .i64 o.y.hi]) ∧ Hid (Blk wr (w.heap.size + 1 + 1 + 1) 112 #[.int .i64 0, .int .i64 0, .int .i64 0, .int .i64 0]) ∧ Ext w wr) (fun i _ => 2 + k - (intOf i).toNat)
      case atStart => exact ⟨0, ⟨⟨-g, g⟩, -g, g⟩, Nat.zero_le _, rfl, HT2, Lib.hid (by simpa using HGas.out), HOW2, C12, C8, EE⟩
      case round =>
        clear HT2 HOW2 C12 C8
        obtain ⟨j, o, hj, rfl, HI, HSo, HOW, D12, D8, EW⟩ := hrel
        have hAr := own_sl ar_len (ar_read wr) HOW.out
        obtain ⟨A', c', hA', hAr⟩ := hAr
        injection hA' with e1 e2 e3
        subst e1 e3
        clear e2
        have c12 := D12.out.cell
        have f12 := D12.out.frozen
        have l12 := D12.out.lt
        by_cases hjk : j < 2 + k
        · obtain ⟨b2, off2, y, hA2, HD, hym, hy⟩ := hAr.one (show j < L.length by have := HLl.out; omega)
          injection hA2 with hA2
          injection hA2 with e4 e5 _
          subst e4 e5
          obtain ⟨hy0, hy1, hy2, hy3⟩ := hy
          simp only [Nat.zero_add] at hy0 hy1 hy2 hy3
          have hbl : gb < wr.heap.size := World.block_lt_of_cell? wr _ hy0
          have hi := HI.out
          rw [HD.out, List.foldl_cons] at hi
          have hys := HSM2.out y hym
          have hsum := HSo.out.add hys
          obtain ⟨⟨oxl, oxh⟩, oyl, oyh⟩ := o
          obtain ⟨⟨yxl, yxh⟩, yyl, yyh⟩ := y
          dsimp only at hy0 hy1 hy2 hy3 c12
          have HS : Hid (∀ (s1 s2 t1 t2 : Int), ((s1 = oxl ∧ s2 = oxh ∧ t1 = yxl ∧ t2 = yxh) ∨ (s1 = oyl ∧ s2 = oyh ∧ t1 = yyl ∧ t2 = yyh)) → ∀ W, Calls Tryz.prog 168 #[.agg #[.int .i64 s1, .int .i64 s2], .agg #[.int .i64 t1, .int .i64 t2]] W fun e w' => e = .returned (.agg #[.int .i64 (s1 + t1), .int .i64 (s2 + t2)]) ∧ Ext W w') := by
            refine Lib.hid fun s1 s2 t1 t2 h W => ?_
            have hg := gSum_c s1 s2 t1 t2 W
            have hbd : 1000 + 1152921504606847 * (j : Int) + 1152921504606847 ≤ 1152921504606846976 := by omega
            have hss : addS ⟨s1, s2⟩ ⟨t1, t2⟩ = ⟨s1 + t1, s2 + t2⟩ := by
              rcases h with ⟨rfl, rfl, rfl, rfl⟩ | ⟨rfl, rfl, rfl, rfl⟩
              · exact addS_small HSo.out.1 hys.1 (by omega) (by omega) hbd
              · exact addS_small HSo.out.2 hys.2 (by omega) (by omega) hbd
            rw [hss] at hg
            exact hg
          have Hi : Hid ((L.drop (j + 1)).foldl sumA ⟨⟨oxl + yxl, oxh + yxh⟩, oyl + yyl, oyh + yyh⟩ = T) := hi
          have HSn : Hid (SmA (1000 + 1152921504606847 * ((j + 1 : Nat) : Int)) ⟨⟨oxl + yxl, oxh + yxh⟩, oyl + yyl, oyh + yyh⟩) := Lib.hid (SmA.mono hsum (by push_cast; omega))
          have hne : gb ≠ q + 1 := by omega
          clear hi hsum hys HI HD hym hAr
          go_wp2_with fail
          refine wp_region_forced 17 (Ext _) (Stable.ext _) (Ext.drew (Ext.refl _)) (by kernel_rfl) (by kernel_rfl) ?_
          simp only [List.take_succ_cons, List.take_zero, List.drop_succ_cons, List.drop_zero]
          (repeat' (first | (refine bl_off (by rfl) ?_; simp only [putX]) | (apply bl_op; rfl; (intro w1 h1; obtain ⟨hc, hf, hz⟩ := bcell h1; go_simp; (try go_bits); (first | exact ⟨rfl, Ext.refl _⟩ | (apply gives_call; first | (go_at_call 168; exact HS.out _ _ _ _ (by first | exact .inl ⟨rfl, rfl, rfl, rfl⟩ | exact .inr ⟨rfl, rfl, rfl, rfl⟩) _)) | (go_invoke; go_simp; apply gives_call; first | (go_at_call 168; exact HS.out _ _ _ _ (by first | exact .inl ⟨rfl, rfl, rfl, rfl⟩ | exact .inr ⟨rfl, rfl, rfl, rfl⟩) _)))); simp only [putX]) | (refine bl_split rfl rfl (fun hx => ?_) (fun hx => ?_) <;> simp only [hx])))
          refine bl_nil ?_
          intro w5 h5
          have HOW5 := Lib.hid (own_ext_keep HOW.out h5)
          have F12 := D12.out.ext h5
          have F8 := D8.out.ext h5
          have E5 := EW.trans h5
          clear h5 HOW D12 D8 c12 f12 l12 hy0 hy1 hy2 hy3 hbl HS
          have c_F12 := F12.cell; have f_F12 := F12.frozen; have l_F12 := F12.lt
          go_wp2_with fail
          go_roundw
          case rel => exact ⟨j + 1, ⟨⟨oxl + yxl, oxh + yxh⟩, oyl + yyl, oyh + yyh⟩, by omega, by go_num, Hi, HSn, own_far (own_far (own_far (own_far HOW5.out hne) hne) hne) hne, blk_set2 (blk_set2 F12 rfl) rfl, blk_far2 (blk_far2 F8 (by omega)) (by omega), ext_set2 (ext_set2 E5 (by omega)) (by omega)⟩
          case measure => simp [intOf]; omega
        · have hjL : j = L.length := by have := HLl.out; omega
          have hi := HI.out
          rw [hjL, List.drop_length] at hi
          have Hi : Hid (o = T) := hi
          have c8 := D8.out.cell
          have f8 := D8.out.frozen
          have l8 := D8.out.lt
          obtain ⟨⟨oxl, oxh⟩, oyl, oyh⟩ := o
          clear hi HI hAr HLl hjL
          go_wp2_with fail
          (try simp only [Exit.inBlock, Exit.then]); apply bodyPost_ret; (focus (simp only [results, Tryz.results125]; go_simp; try rfl)); rfl
          exact ⟨ret_v (by rw [← Hi.out]), ext_by⟩
theorem gOver_c (A : Option Addr) (n c : Nat) (home : Int) (l : List Body) (d : Drf) (tick : Int) (a : Ar) (w : World) (hl : Bodies w A n l) :
    Calls Tryz.prog 125 #[.agg #[.slice A n c, .int .i64 home], .agg #[.int .i64 d.light.lo, .int .i64 d.light.hi, .int .i64 d.heat.lo, .int .i64 d.heat.hi, .int .i64 d.gas], .int .i64 tick, .agg #[.int .i64 a.x.lo, .int .i64 a.x.hi, .int .i64 a.y.lo, .int .i64 a.y.hi]] w fun e w' =>
      e = .returned (arRV (overM l home d tick a)) ∧ Ext w w' := by
  unfold overM
  by_cases h0 : fAskErr l home d tick a = 0
  · rw [if_pos h0]
    exact gOver_ok A n c home l d tick a w hl h0
  · rw [if_neg h0]
    exact gOver_no A n c home l d tick a w hl h0
set_option maxRecDepth 20000 in
set_option maxHeartbeats 2000000 in
theorem gPullAt_c (A : Option Addr) (n c : Nat) (home : Int) (l : List Body) (d : Drf) (tick x y : Int) (w : World) (hl : Bodies w A n l) :
    Calls Tryz.prog 85 #[.agg #[.slice A n c, .int .i64 home], .agg #[.int .i64 d.light.lo, .int .i64 d.light.hi, .int .i64 d.heat.lo, .int .i64 d.heat.hi, .int .i64 d.gas], .int .i64 tick, .agg #[.int .i64 x, .int .i64 y]] w fun e w' =>
      e = .returned (arRV (overM l home d tick ⟨⟨x, x⟩, ⟨y, y⟩⟩)) ∧ Ext w w' := by
  have HO := Lib.hid fun W (hW : Ext w W) => gOver_c A n c home l d tick ⟨⟨x, x⟩, ⟨y, y⟩⟩ W (Bodies.ext hW hl)
  generalize overM _ _ _ _ _ = R at *
  obtain ⟨⟨⟨xl, xh⟩, yl, yh⟩, e⟩ := R
  dsimp only at HO ⊢
  clear hl
  go_enter Tryz.func85, Tryz.ntmps85
  go_wp2_with fail
  refine wp_region_forced 8 (Ext _) (Stable.ext _) (Ext.drew (Ext.refl _)) (by kernel_rfl) (by kernel_rfl) ?_
  simp only [List.take_succ_cons, List.take_zero, List.drop_succ_cons, List.drop_zero]
  (repeat' (first | (refine bl_off (by rfl) ?_; simp only [putX]) | (apply bl_op; rfl; (intro w1 h1; obtain ⟨hc, hf, hz⟩ := bcell h1; go_simp; (try go_bits); (first | exact ⟨rfl, Ext.refl _⟩ | (apply gives_call; first | (go_at_call 128; exact gAt_c _ _ _) | (go_at_call 125; exact HO.out _ ext_by)) | (go_invoke; go_simp; apply gives_call; first | (go_at_call 128; exact gAt_c _ _ _) | (go_at_call 125; exact HO.out _ ext_by)))); simp only [putX]) | (refine bl_split rfl rfl (fun hx => ?_) (fun hx => ?_) <;> simp only [hx])))
  refine bl_nil ?_
  intro w1 h1
  obtain ⟨hc_w1, hf_w1, hz_w1⟩ := bcell h1; (try simp only [szA] at hz_w1); (try have := wz0 w w1); (try have := wz1 w w1); (try have := wz2 w w1); (try have := wz3 w w1); (try have := wz4 w w1)
  go_wp2_with fail
  (try simp only [Exit.inBlock, Exit.then]); apply bodyPost_ret; (focus (simp only [results, Tryz.results85]; go_simp; try rfl)); rfl
  exact ⟨rfl, ext_by⟩
end Go.Proofs.YtfniicgoeljmdaaGreat
