/- A box that is pushed: the program. No condition. -/
import Derived.Test.YtiladlangkjoiaaGreatPushChange
namespace Go.Proofs.YtiladlangkjoiaaGreat
open Go.RowKit

theorem change_from {l : List Body} {home : Int} {body : Sp} {tick : Int} {b : Bx} (hd : boundErr body 1 1099511627776 = 0) (hb : bxErr b = 0) : ∀ (L : List Mis), (∀ m ∈ L, misErr m = 0) → ∀ (o : Ar) (k : Int), SmA k o → SmA (k + L.length * 4503599627370496) (L.foldl (fun o m => sumA o (doesA l home m body tick b)) o)
  | [], _, o, k, h => by simpa using h
  | m :: L, hL, o, k, h => (change_from hd hb L (fun x hx => hL x (List.mem_cons_of_mem _ hx)) _ _ (h.add (does_sm (hL m List.mem_cons_self) hd hb))).mono (by rw [List.length_cons]; push_cast; omega)
theorem change_sm {l : List Body} {home : Int} {body : Sp} {tick : Int} {b : Bx} (L : List Mis) (hL : ∀ m ∈ L, misErr m = 0) (hd : boundErr body 1 1099511627776 = 0) (hb : bxErr b = 0) : SmA (L.length * 4503599627370496) (changeA l home L body tick b) :=
  (change_from hd hb L hL zeroA 0 (by simp [SmA, Sm, zeroA])).mono (by omega)
section
variable (A : Option Addr) (n c : Nat) (home : Int) (l : List Body) (M : Option Addr) (k0 k1 : Nat) (L : List Mis) (body : Sp) (tick : Int) (b : Bx) (w : World)
set_option maxRecDepth 20000 in
set_option maxHeartbeats 16000000 in
theorem pPush_c (hl : Bodies w A n l) (hM : Miss w M k0 L) (hL : ∀ m ∈ L, misErr m = 0) (hn : L.length ≤ 8) (hd : boundErr body 1 1099511627776 = 0) (hb : bxErr b = 0) :
    Calls Tryz.prog 127 #[.agg #[.slice A n c, .int .i64 home], .slice M k0 k1, .agg #[.int .i64 body.lo, .int .i64 body.hi], .int .i64 tick, .agg #[.int .i64 b.x.lo, .int .i64 b.x.hi, .int .i64 b.y.lo, .int .i64 b.y.hi, .int .i64 b.u.lo, .int .i64 b.u.hi, .int .i64 b.v.lo, .int .i64 b.v.hi]] w fun e w' => e = .returned (.agg #[.int .i64 b.x.lo, .int .i64 b.x.hi, .int .i64 b.y.lo, .int .i64 b.y.hi, .int .i64 (b.u.lo + (changeA l home L body tick b).x.lo), .int .i64 (b.u.hi + (changeA l home L body tick b).x.hi), .int .i64 (b.v.lo + (changeA l home L body tick b).y.lo), .int .i64 (b.v.hi + (changeA l home L body tick b).y.hi)]) ∧ Ext w w' := by
  have HC := Lib.hid fun W (hW : Ext w W) => pChange_c A n c home l M k0 k1 L body tick b W (Bodies.ext hW hl) (Miss.ext hW hM) hL hn hd hb
  have hsm : SmA 72057594037927936 (changeA l home L body tick b) := (change_sm L hL hd hb).mono (by omega)
  have HSU := Lib.hid fun (al ah bl bh : Int) (g : Nat) (t : TypeId) (c : Nat) (W : World) h ha hb => pSum2_c al ah bl bh g t c W h ha hb
  obtain ⟨q1, q2, q3⟩ := bxErr_ok.1 hb
  replace q1 := fullB_iff.1 q1
  have hu : Sm 72057594037927936 ⟨b.u.lo, b.u.hi⟩ := by
    obtain ⟨_, _, h3, h4⟩ := stErr_ok.1 q2
    obtain ⟨_, _, g3, g4⟩ := stErr_ok.1 q3
    dsimp only [lowS, highS] at h3 g3
    have := q1.2.2.1
    unfold Sm; dsimp only; omega
  have hv : Sm 72057594037927936 ⟨b.v.lo, b.v.hi⟩ := by
    obtain ⟨_, _, h3, h4⟩ := stErr_ok.1 q2
    obtain ⟨_, _, g3, g4⟩ := stErr_ok.1 q3
    dsimp only [lowS, highS] at h4 g4
    have := q1.2.2.2
    unfold Sm; dsimp only; omega
  generalize changeA l home L body tick b = R at *
  obtain ⟨⟨r1, r2⟩, r3, r4⟩ := R
  obtain ⟨X1, X2⟩ := hsm
  dsimp only [arV] at HC ⊢
  dsimp only at X1 X2
  clear hl hM hL hn hd hb q1 q2 q3
  go_enter Tryz.func127, Tryz.ntmps127
  go_wp2_with fail
  refine (HC.out _ ext_by).mono ?_
  rintro e w1 ⟨rfl, h1⟩
  have B9 : Blk w1 (w.heap.size + 1 + 1) 48 #[.int .i64 b.x.lo, .int .i64 b.x.hi, .int .i64 b.y.lo, .int .i64 b.y.hi, .int .i64 b.u.lo, .int .i64 b.u.hi, .int .i64 b.v.lo, .int .i64 b.v.hi] := ((Blk.newAt (by simp)).alloc _).ext h1
  have B10 : Blk w1 (w.heap.size + 1 + 1 + 1) 48 #[.int .i64 0, .int .i64 0, .int .i64 0, .int .i64 0, .int .i64 0, .int .i64 0, .int .i64 0, .int .i64 0] := (Blk.newAt (by simp)).ext h1
  have E1 : Ext w w1 := ext_by
  have z1 := E1.size
  clear h1 HC
  have c_B9 := B9.cell; have f_B9 := B9.frozen; have l_B9 := B9.lt; have c_B10 := B10.cell; have f_B10 := B10.frozen; have l_B10 := B10.lt
  go_wp2_with fail
  refine name_world _ ?_
  intro W0 hW0
  have C11 : Blk W0 w1.heap.size 32 #[.int .i64 r1, .int .i64 r2, .int .i64 r3, .int .i64 r4] := by rw [hW0]; exact Blk.newAt rfl
  have C9 : Blk W0 (w.heap.size + 1 + 1) 48 #[.int .i64 b.x.lo, .int .i64 b.x.hi, .int .i64 b.y.lo, .int .i64 b.y.hi, .int .i64 b.u.lo, .int .i64 b.u.hi, .int .i64 b.v.lo, .int .i64 b.v.hi] := by rw [hW0]; exact B9.alloc _
  have C10 : Blk W0 (w.heap.size + 1 + 1 + 1) 48 #[.int .i64 0, .int .i64 0, .int .i64 0, .int .i64 0, .int .i64 0, .int .i64 0, .int .i64 0, .int .i64 0] := by rw [hW0]; exact B10.alloc _
  have E0 : Ext w W0 := by rw [hW0]; exact E1.alloc _
  clear c_B9 f_B9 l_B9 c_B10 f_B10 l_B10
  clear hW0 B9 B10 E1
  have c_C11 := C11.cell; have f_C11 := C11.frozen; have l_C11 := C11.lt; have c_C9 := C9.cell; have f_C9 := C9.frozen; have l_C9 := C9.lt; have c_C10 := C10.cell; have f_C10 := C10.frozen; have l_C10 := C10.lt
  refine wp_region_freeL 13 (by kernel_rfl) (by kernel_rfl) ?_
  simp only [List.take_succ_cons, List.take_zero, List.drop_succ_cons, List.drop_zero]
  (repeat' (first | (refine fb_off (by rfl) (by rfl) ?_; simp only [putX]) | (apply fb_op; rfl; rfl; (intro w1 h1; obtain ⟨hc, hf, hz⟩ := bcell h1; go_simp; (try go_bits); (first | exact ⟨rfl, Ext.refl _⟩)); simp only [putX]) | (apply fb_slice; rfl; rfl; (intro w1 h1; obtain ⟨hc, hf, hz⟩ := bcell h1; go_simp; first | rfl | exact ⟨⟨rfl, rfl⟩, rfl⟩)) | (apply fb_use; rfl; (intro u; rfl); (rintro u w1 h1 ⟨b, rfl, hB⟩; obtain ⟨hc, hf, hz⟩ := bcell h1; go_simp; (first | exact ⟨rfl, Ext.refl _⟩ | (apply gives_call; first | (go_at_call 202; exact HSU.out _ _ _ _ _ _ _ _ hB (by assumption) (by assumption))) | (go_invoke; go_simp; apply gives_call; first | (go_at_call 202; exact HSU.out _ _ _ _ _ _ _ _ hB (by assumption) (by assumption))))); simp only [putX]) | (refine fb_split rfl rfl (fun hx => ?_) (fun hx => ?_) <;> simp only [hx])))
  refine fb_nil ?_
  (intro val w6 h6 hg; clear hg; simp only [putV, Act.put, List.setIfInBounds_toArray, List.set_cons_zero, List.set_cons_succ])
  obtain ⟨hc_w6, hf_w6, hz_w6⟩ := bcell h6; (try simp only [szA] at hz_w6); (try have := wz0 w w6); (try have := wz1 w w6); (try have := wz2 w w6); (try have := wz3 w w6); (try have := wz4 w w6)
  go_wp2_with fail
  refine name_world _ ?_
  intro W9 hW9
  have n9 : w.heap.size + 1 + 1 + 1 ≠ w.heap.size + 1 + 1 := by omega
  have D10 := C10.ext h6
  have E6 := E0.trans h6
  have Q8 : Blk W9 (w.heap.size + 1 + 1 + 1) 48 #[.int .i64 b.x.lo, .int .i64 b.x.hi, .int .i64 b.y.lo, .int .i64 b.y.hi, .int .i64 (b.u.lo + r1), .int .i64 (b.u.hi + r2), .int .i64 (b.v.lo + r3), .int .i64 (b.v.hi + r4)] := by
    rw [hW9]; exact blk_set2 (blk_set2 (blk_set2 (blk_set2 (blk_far2 (blk_far2 D10 n9) n9) rfl) rfl) rfl) rfl
  have QE : Ext w W9 := by rw [hW9]; exact ext_set2 (ext_set2 (ext_set2 (ext_set2 (ext_set2 (ext_set2 E6 (by omega)) (by omega)) (by omega)) (by omega)) (by omega)) (by omega)
  clear hW9
  have c_Q8 := Q8.cell; have f_Q8 := Q8.frozen; have l_Q8 := Q8.lt
  (try simp only [Exit.inBlock, Exit.then]); apply bodyPost_ret; (focus (simp only [results, Tryz.results127]; go_simp; try rfl)); rfl
  exact ⟨rfl, QE⟩
end
end Go.Proofs.YtiladlangkjoiaaGreat
