/- The pull of a body on an area, and a body in its place: the program. No condition. -/
import Derived.Test.YtfniicgoeljmdaaGreatForcePull
namespace Go.Proofs.YtfniicgoeljmdaaGreat
open Go.RowKit

set_option maxRecDepth 20000 in
set_option maxHeartbeats 4000000 in
theorem fPull_c (b : Body) (p : Vec) (a : Ar) (A : Option Addr) (n c : Nat) (w : World) (hb : 0 ≤ b.mu ∧ b.mu ≤ 1125899906842624 ∧ 0 ≤ b.radius ∧ b.radius ≤ 1048576) (hp : placeP p) (ha : SmA 33554432 a) :
    Calls Tryz.prog 200 #[.agg #[.int .i64 b.mu, .int .i64 b.radius, .slice A n c, .int .i64 p.x, .int .i64 p.y], .agg #[.int .i64 a.x.lo, .int .i64 a.x.hi, .int .i64 a.y.lo, .int .i64 a.y.hi]] w fun e w' => e = .returned (arV (pullM b p a)) ∧ Ext w w' := by
  have v1 := toM_sm hp ha
  obtain ⟨mu, r, tr⟩ := b
  obtain ⟨px, py⟩ := p
  obtain ⟨⟨xl, xh⟩, yl, yh⟩ := a
  dsimp only at hb
  have q1 := qM_sm (r := r) ⟨hb.2.2.1, hb.2.2.2⟩ v1
  have HD := Lib.hid fun W => fDist_c mu r A n c px py xl xh yl yh W ⟨hb.2.2.1, hb.2.2.2⟩ v1
  have HT := Lib.hid fun W => fTo_c mu r A n c px py xl xh yl yh W
  unfold pullM
  dsimp only
  generalize toM ⟨px, py⟩ ⟨⟨xl, xh⟩, ⟨yl, yh⟩⟩ = v at *
  obtain ⟨⟨vxl, vxh⟩, vyl, vyh⟩ := v
  generalize qM r _ = q at *
  obtain ⟨ql, qh⟩ := q
  generalize rM _ = rr at *
  obtain ⟨rl, rh⟩ := rr
  have HW := Lib.hid fun (s t : Int) (h : (s = vxl ∧ t = vxh) ∨ (s = vyl ∧ t = vyh)) W => fToward_c mu r A n c px py s t ql qh rl rh W ⟨hb.1, hb.2.1⟩ (by rcases h with ⟨rfl, rfl⟩ | ⟨rfl, rfl⟩; exact v1.1; exact v1.2) q1
  dsimp only
  clear v1 q1 hb hp ha
  go_enter Tryz.func200, Tryz.ntmps200
  go_wp2_with fail
  refine (HD.out _).mono ?_
  rintro e w1 ⟨rfl, h1⟩
  obtain ⟨hc_w1, hf_w1, hz_w1⟩ := bcell h1; (try simp only [szA] at hz_w1); (try have := wz0 w w1); (try have := wz1 w w1); (try have := wz2 w w1); (try have := wz3 w w1); (try have := wz4 w w1)
  go_wp2_with fail
  refine (HT.out _).mono ?_
  rintro e w2 ⟨rfl, h2⟩
  have B2 : Blk w2 w.heap.size 227 #[.int .i64 mu, .int .i64 r, .slice A n c, .int .i64 px, .int .i64 py] := ((((((Blk.newAt rfl).alloc _).alloc _).ext h1).alloc _).alloc _).ext h2
  have B4 : Blk w2 (w.heap.size + 1 + 1) 112 #[.int .i64 0, .int .i64 0, .int .i64 0, .int .i64 0] := ((((Blk.newAt (by simp)).ext h1).alloc _).alloc _).ext h2
  have B5 : Blk w2 w1.heap.size 26 #[.int .i64 ql, .int .i64 qh] := ((Blk.newAt rfl).alloc _).ext h2
  have B6 : Blk w2 (w1.heap.size + 1) 26 #[.int .i64 rl, .int .i64 rh] := (Blk.newAt (by simp)).ext h2
  have E2 : Ext w w2 := ext_by
  clear h1 h2 hc_w1 hf_w1
  have c_B2 := B2.cell; have f_B2 := B2.frozen; have l_B2 := B2.lt; have c_B4 := B4.cell; have f_B4 := B4.frozen; have l_B4 := B4.lt; have c_B5 := B5.cell; have f_B5 := B5.frozen; have l_B5 := B5.lt; have c_B6 := B6.cell; have f_B6 := B6.frozen; have l_B6 := B6.lt
  go_wp2_with fail
  refine name_world _ ?_
  intro W hW
  have C2 := B2.alloc (.cells #[.int .i64 vxl, .int .i64 vxh, .int .i64 vyl, .int .i64 vyh] 112)
  have C4 := B4.alloc (.cells #[.int .i64 vxl, .int .i64 vxh, .int .i64 vyl, .int .i64 vyh] 112)
  have C5 := B5.alloc (.cells #[.int .i64 vxl, .int .i64 vxh, .int .i64 vyl, .int .i64 vyh] 112)
  have C6 := B6.alloc (.cells #[.int .i64 vxl, .int .i64 vxh, .int .i64 vyl, .int .i64 vyh] 112)
  obtain ⟨b7, hb7⟩ : ∃ b, b = w2.heap.size := ⟨_, rfl⟩
  have C7 : Blk (w2.alloc (.cells #[.int .i64 vxl, .int .i64 vxh, .int .i64 vyl, .int .i64 vyh] 112)) b7 112 #[.int .i64 vxl, .int .i64 vxh, .int .i64 vyl, .int .i64 vyh] := Blk.newAt hb7
  have E3 := E2.alloc (.cells #[.int .i64 vxl, .int .i64 vxh, .int .i64 vyl, .int .i64 vyh] 112)
  rw [← hb7]
  rw [← hW] at C2 C4 C5 C6 C7 E3
  clear c_B2 f_B2 l_B2 c_B4 f_B4 l_B4 c_B5 f_B5 l_B5 c_B6 f_B6 l_B6
  clear B2 B4 B5 B6 E2 hW hb7
  have c_C2 := C2.cell; have f_C2 := C2.frozen; have l_C2 := C2.lt; have c_C4 := C4.cell; have f_C4 := C4.frozen; have l_C4 := C4.lt; have c_C5 := C5.cell; have f_C5 := C5.frozen; have l_C5 := C5.lt; have c_C6 := C6.cell; have f_C6 := C6.frozen; have l_C6 := C6.lt; have c_C7 := C7.cell; have f_C7 := C7.frozen; have l_C7 := C7.lt
  refine wp_region_forced 13 (Ext _) (Stable.ext _) (Ext.drew (Ext.refl _)) (by kernel_rfl) (by kernel_rfl) ?_
  simp only [List.take_succ_cons, List.take_zero, List.drop_succ_cons, List.drop_zero]
  (repeat' (first | (refine bl_off (by rfl) ?_; simp only [putX]) | (apply bl_op; rfl; (intro w1 h1; obtain ⟨hc, hf, hz⟩ := bcell h1; go_simp; (try go_bits); (first | exact ⟨rfl, Ext.refl _⟩ | (apply gives_call; first | (go_at_call 226; exact HW.out _ _ (by first | exact .inl ⟨rfl, rfl⟩ | exact .inr ⟨rfl, rfl⟩) _)) | (go_invoke; go_simp; apply gives_call; first | (go_at_call 226; exact HW.out _ _ (by first | exact .inl ⟨rfl, rfl⟩ | exact .inr ⟨rfl, rfl⟩) _)))); simp only [putX]) | (refine bl_split rfl rfl (fun hx => ?_) (fun hx => ?_) <;> simp only [hx])))
  refine bl_nil ?_
  intro w3 h3
  obtain ⟨hc_w3, hf_w3, hz_w3⟩ := bcell h3; (try simp only [szA] at hz_w3); (try have := wz0 w w3); (try have := wz1 w w3); (try have := wz2 w w3); (try have := wz3 w w3); (try have := wz4 w w3)
  go_wp2_with fail
  (try simp only [Exit.inBlock, Exit.then]); apply bodyPost_ret; (focus (simp only [results, Tryz.results200]; go_simp; try rfl)); rfl
  exact ⟨rfl, ext_by⟩
set_option maxRecDepth 20000 in
set_option maxHeartbeats 4000000 in
theorem fOf_c (b off n c : Nat) (home : Int) (l : List Body) (k : Nat) (x : Body) (tick : Int) (A' : Option Addr) (n' c' : Nat) (w : World) (hl : Bodies w (some ⟨b, off, none⟩) n l) (hx : l[k]? = some x)
    (h0 : w.cell? ⟨b, off + k * 3, none⟩ = some (.int .i64 x.mu)) (h1 : w.cell? ⟨b, off + k * 3 + 1, none⟩ = some (.int .i64 x.radius)) (h2 : w.cell? ⟨b, off + k * 3 + 2, none⟩ = some (.slice A' n' c')) :
    Calls Tryz.prog 199 #[.agg #[.slice (some ⟨b, off, none⟩) n c, .int .i64 home], .int .i64 (k : Int), .int .i64 tick] w fun e w' =>
      e = .returned (.agg #[.int .i64 x.mu, .int .i64 x.radius, .slice A' n' c', .int .i64 (atM l home k tick).x, .int .i64 (atM l home k tick).y]) ∧ Ext w w' := by
  have hkn : k < n := by
    have h3 := (List.getElem?_eq_some_iff.1 hx).1
    have h4 := hl.len
    omega
  have hn := hl.le
  have HA := Lib.hid fun W (hW : Ext w W) => At_c (some ⟨b, off, none⟩) n c home k tick l W (Bodies.ext hW hl)
  generalize atM l home k tick = p at *
  obtain ⟨px, py⟩ := p
  obtain ⟨mu, r, tr⟩ := x
  dsimp only at h0 h1
  have hbl : b < w.heap.size := World.block_lt_of_cell? w _ h0
  have hbl1 : b < w.heap.size + 1 := by omega
  have hbl2 : b < w.heap.size + 1 + 1 := by omega
  clear hl hx
  go_enter Tryz.func199, Tryz.ntmps199
  go_wp2_with fail
  refine wp_region_forced 10 (Ext _) (Stable.ext _) (Ext.drew (Ext.refl _)) (by kernel_rfl) (by kernel_rfl) ?_
  simp only [List.take_succ_cons, List.take_zero, List.drop_succ_cons, List.drop_zero]
  (repeat' (first | (refine bl_off (by rfl) ?_; simp only [putX]) | (apply bl_op; rfl; (intro w1 h1; obtain ⟨hc, hf, hz⟩ := bcell h1; go_simp; (try go_bits); (first | exact ⟨rfl, Ext.refl _⟩ | (apply gives_call; first | (go_at_call 223; exact HA.out _ ext_by)) | (go_invoke; go_simp; apply gives_call; first | (go_at_call 223; exact HA.out _ ext_by)))); simp only [putX]) | (refine bl_split rfl rfl (fun hx => ?_) (fun hx => ?_) <;> simp only [hx])))
  refine bl_nil ?_
  intro w1 h1
  obtain ⟨hc_w1, hf_w1, hz_w1⟩ := bcell h1; (try simp only [szA] at hz_w1); (try have := wz0 w w1); (try have := wz1 w w1); (try have := wz2 w w1); (try have := wz3 w w1); (try have := wz4 w w1)
  go_wp2_with fail
  (try simp only [Exit.inBlock, Exit.then]); apply bodyPost_ret; (focus (simp only [results, Tryz.results199]; go_simp; try rfl)); rfl
  exact ⟨rfl, ext_by⟩
end Go.Proofs.YtfniicgoeljmdaaGreat
