/- What moves a small body: the reference. No condition. -/
import Derived.Test.YtfniicgoeljmdaaGreatRefLight
import Derived.Test.YtfniicgoeljmdaaGreatForceAt
namespace Go.Proofs.YtfniicgoeljmdaaGreat
open Go.RowKit

theorem info_area : (Tryz.prog.info? 112).map (fun i => (i.zero, i.size, i.bytes)) = some (some (.agg #[.int .i64 0, .int .i64 0, .int .i64 0, .int .i64 0]), 4, 32) := by kernel_rfl
theorem ar_len (x : Ar) : (arC x).length = 4 := rfl
theorem own_far {w : World} {base gb n cap m b i : Nat} {e : TypeId} {sz : Nat} {xs : List Value} {u : Value} (h : w.ownsRow base e sz (.slice (some ⟨gb, 0, none⟩) n cap) m xs) (hne : gb ≠ b) : (w.setCell ⟨b, i, none⟩ u).ownsRow base e sz (.slice (some ⟨gb, 0, none⟩) n cap) m xs :=
  own_set h (fun e => hne (Option.some.inj (by simpa [Value.ownBlock] using e))) u
theorem over_ref (l : List Body) (home : Int) (d : Drf) (tick : Int) (a : Ar) : (lightM d (sunM l home tick a) :: heatM d (sunM l home tick a) :: (pullsM l home tick a).map (·.2)).foldl sumA (gasM d) = overA l home d tick a := by
  unfold overA sumL
  rw [List.foldl_cons, List.foldl_cons, List.foldl_map]
theorem pulls_get (l : List Body) (home tick : Int) (a : Ar) : ∀ (r : List Body) (j k : Nat) (x : Body), r[k]? = some x → ((pullsF l home tick a r j).map (·.2))[k]? = some (pullM x (atM l home ((j + k : Nat) : Int) tick) a)
  | [], j, k, x, h => by simp at h
  | b :: r, j, 0, x, h => by
    simp at h
    subst h
    simp [pullsF]
  | b :: r, j, k + 1, x, h => by
    rw [pullsF, List.map_cons, List.getElem?_cons_succ, pulls_get l home tick a r (j + 1) k x (by simpa using h)]
    rw [show j + 1 + k = j + (k + 1) by omega]
set_option maxRecDepth 20000 in
set_option maxHeartbeats 1000000 in
theorem gOver_no (A : Option Addr) (n c : Nat) (home : Int) (l : List Body) (d : Drf) (tick : Int) (a : Ar) (w : World) (hl : Bodies w A n l) (h0 : fAskErr l home d tick a ≠ 0) :
    Calls Tryz.prog 125 #[.agg #[.slice A n c, .int .i64 home], .agg #[.int .i64 d.light.lo, .int .i64 d.light.hi, .int .i64 d.heat.lo, .int .i64 d.heat.hi, .int .i64 d.gas], .int .i64 tick, .agg #[.int .i64 a.x.lo, .int .i64 a.x.hi, .int .i64 a.y.lo, .int .i64 a.y.hi]] w fun e w' =>
      e = .returned (.tuple #[.agg #[.int .i64 0, .int .i64 0, .int .i64 0, .int .i64 0], .int .i64 (fAskErr l home d tick a)]) ∧ Ext w w' := by
  have H := Lib.hid fun W (hW : Ext w W) => gAsked_c A n c home l d.light.lo d.light.hi d.heat.lo d.heat.hi d.gas tick a.x.lo a.x.hi a.y.lo a.y.hi W (Bodies.ext hW hl)
  change Hid (∀ W, Ext w W → Calls _ _ _ W fun e w' => e = .returned (.int .i64 (fAskErr l home d tick a)) ∧ _) at H
  obtain ⟨⟨ll, lh⟩, ⟨el, eh⟩, g⟩ := d
  obtain ⟨⟨xl, xh⟩, yl, yh⟩ := a
  generalize fAskErr _ _ _ _ _ = E at *
  dsimp only at *
  clear hl
  go_enter Tryz.func125, Tryz.ntmps125
  go_wp2_with fail
  refine (H.out _ (by (repeat' (first | exact Ext.refl _ | assumption | apply Ext.alloc | apply Ext.drew | refine Ext.set ?_ (by dsimp only; omega) _ | refine Ext.trans ?_ (by assumption))))).mono ?_
  rintro e w1 ⟨rfl, h1⟩
  obtain ⟨hc_w1, hf_w1, hz_w1⟩ := bcell h1; (repeat (first | rw [World.size_alloc] at hz_w1 | rw [World.size_drew] at hz_w1 | rw [World.size_setCell] at hz_w1)); (try (have : w.heap.size < w1.heap.size := (by omega))); (try (have : w.heap.size + 1 < w1.heap.size := (by omega))); (try (have : w.heap.size + 1 + 1 < w1.heap.size := (by omega))); (try (have : w.heap.size + 1 + 1 + 1 < w1.heap.size := (by omega))); (try (have : w.heap.size + 1 + 1 + 1 + 1 < w1.heap.size := (by omega)))
  go_wp2_with fail
  (try simp only [Exit.inBlock, Exit.then]); apply bodyPost_ret; (focus (simp only [results, Tryz.results125]; go_simp; try rfl)); rfl
  exact ⟨rfl, by (repeat' (first | exact Ext.refl _ | assumption | apply Ext.alloc | apply Ext.drew | refine Ext.set ?_ (by dsimp only; omega) _ | refine Ext.trans ?_ (by assumption)))⟩
set_option maxRecDepth 20000 in
set_option maxHeartbeats 8000000 in
theorem gOver_ok (A : Option Addr) (n c : Nat) (home : Int) (l : List Body) (d : Drf) (tick : Int) (a : Ar) (w : World) (hl : Bodies w A n l) (h0 : fAskErr l home d tick a = 0) :
    Calls Tryz.prog 125 #[.agg #[.slice A n c, .int .i64 home], .agg #[.int .i64 d.light.lo, .int .i64 d.light.hi, .int .i64 d.heat.lo, .int .i64 d.heat.hi, .int .i64 d.gas], .int .i64 tick, .agg #[.int .i64 a.x.lo, .int .i64 a.x.hi, .int .i64 a.y.lo, .int .i64 a.y.hi]] w fun e w' =>
      e = .returned (.tuple #[arV (overA l home d tick a), .int .i64 0]) ∧ Ext w w' := by
  obtain ⟨k1, k2, k3, k4⟩ := fAsk_ok h0
  obtain ⟨m1, m2, m3⟩ := wld_bodies k1
  obtain ⟨b, off, x0, rfl, _, _, _⟩ := bodies_some hl m1
  have hn := hl.le
  have hgas := gasM_sm k2
  have hdr := driftErr_ok k2
  obtain ⟨ia, hia, ha0, ha1, ha2⟩ := info_parts info_area
  have H := Lib.hid fun W (hW : Ext w W) => gAsked_c (some ⟨b, off, none⟩) n c home l d.light.lo d.light.hi d.heat.lo d.heat.hi d.gas tick a.x.lo a.x.hi a.y.lo a.y.hi W (Bodies.ext hW hl)
  rw [show fAskErr l home ⟨⟨d.light.lo, d.light.hi⟩, ⟨d.heat.lo, d.heat.hi⟩, d.gas⟩ tick ⟨⟨a.x.lo, a.x.hi⟩, ⟨a.y.lo, a.y.hi⟩⟩ = 0 from h0] at H
  have HLI := Lib.hid fun W (hW : Ext w W) => gLight_c (some ⟨b, off, none⟩) n c home l d tick a W (Bodies.ext hW hl) h0
  have HHE := Lib.hid fun W (hW : Ext w W) => gHeat_c (some ⟨b, off, none⟩) n c home l d tick a W (Bodies.ext hW hl) h0
  have hln := hl.len
  obtain ⟨PS, hPS⟩ : ∃ PS, PS = (pullsM l home tick a).map (·.2) := ⟨_, rfl⟩
  have hPl : PS.length = n := by rw [hPS, List.length_map, pullsM, pullsF_len, hln]
  have hPs : ∀ p ∈ PS, SmA 1048576 p := by
    intro p hp
    rw [hPS] at hp
    obtain ⟨q, hq, rfl⟩ := List.mem_map.1 hp
    exact pullsF_sm l home tick a l 0 q hq
  have HO : Hid (∀ (k : Nat), k < n → ∃ y : Ar, PS[k]? = some y ∧ ∀ W, Ext w W → Calls Tryz.prog 167 #[.agg #[.slice (some ⟨b, off, none⟩) n c, .int .i64 home], .int .i64 (k : Int), .int .i64 tick, .agg #[.int .i64 a.x.lo, .int .i64 a.x.hi, .int .i64 a.y.lo, .int .i64 a.y.hi]] W fun e w' => e = .returned (arV y) ∧ Ext W w') := by
    refine Lib.hid fun k hk => ?_
    have hk' : k < l.length := by rw [← hln]; exact hk
    have h1 : l[k]? = some l[k] := List.getElem?_eq_getElem hk'
    refine ⟨pullM l[k] (atM l home k tick) a, ?_, fun W hW => gOne_c b off n c home l k l[k] tick a W (Bodies.ext hW hl) h1 (m3 _ (List.getElem_mem hk')) k4⟩
    rw [hPS]
    have h2 := pulls_get l home tick a l 0 k _ h1
    rw [Nat.zero_add] at h2
    exact h2
  have hT := over_ref l home d tick a
  rw [← hPS] at hT
  have hL1 := lightM_sm d (sunM l home tick a)
  have hL2 := heatM_sm d (sunM l home tick a)
  generalize overA l home d tick a = T at *
  generalize lightM d (sunM l home tick a) = li at *
  generalize heatM d (sunM l home tick a) = he at *
  have HSM : Hid (∀ y ∈ li :: he :: PS, SmA 1152921504606847 y) := by
    refine Lib.hid fun y hy => ?_
    rcases List.mem_cons.1 hy with rfl | hy
    · exact hL1
    · rcases List.mem_cons.1 hy with rfl | hy
      · exact hL2
      · exact (hPs y hy).mono (by omega)
  have HT := Lib.hid hT
  have HPl := Lib.hid hPl
  have HGas := Lib.hid hgas
  have hn8 : n ≤ 8 := by omega
  obtain ⟨hd1, hd2, hd3, hd4, hd5⟩ := hdr
  clear hPS hPs hPl hT hL1 hL2 hgas h0 k1 k2 k3 k4 m1 m2 m3 hl hln hd1 hd2 hd3
  obtain ⟨⟨ll, lh⟩, ⟨el, eh⟩, g⟩ := d
  obtain ⟨⟨lxl, lxh⟩, lyl, lyh⟩ := li
  obtain ⟨⟨exl, exh⟩, eyl, eyh⟩ := he
  obtain ⟨⟨xl, xh⟩, yl, yh⟩ := a
  dsimp only at *
  unfold gasM at HT HGas
  dsimp only at HT HGas
  go_enter Tryz.func125, Tryz.ntmps125
  go_wp2_with fail
  refine (H.out _ (by (repeat' (first | exact Ext.refl _ | assumption | apply Ext.alloc | apply Ext.drew | refine Ext.set ?_ (by dsimp only; omega) _ | refine Ext.trans ?_ (by assumption))))).mono ?_
  rintro e w1 ⟨rfl, h1⟩
  have B4 : Blk w1 w.heap.size 24 #[.slice (some ⟨b, off, none⟩) n c, .int .i64 home] := ((((Blk.newAt rfl).alloc _).alloc _).alloc _).ext h1
  have B5 : Blk w1 (w.heap.size + 1) 28 #[.int .i64 ll, .int .i64 lh, .int .i64 el, .int .i64 eh, .int .i64 g] := (((Blk.newAt (by simp)).alloc _).alloc _).ext h1
  have B7 : Blk w1 (w.heap.size + 1 + 1) 112 #[.int .i64 xl, .int .i64 xh, .int .i64 yl, .int .i64 yh] := ((Blk.newAt (by simp)).alloc _).ext h1
  have B8 : Blk w1 (w.heap.size + 1 + 1 + 1) 112 #[.int .i64 0, .int .i64 0, .int .i64 0, .int .i64 0] := (Blk.newAt (by simp)).ext h1
  have E : Ext w w1 := by (repeat' (first | exact Ext.refl _ | assumption | apply Ext.alloc | apply Ext.drew | refine Ext.set ?_ (by dsimp only; omega) _ | refine Ext.trans ?_ (by assumption)))
  clear h1 H
  have c_B4 := B4.cell; have f_B4 := B4.frozen; have l_B4 := B4.lt; have c_B5 := B5.cell; have f_B5 := B5.frozen; have l_B5 := B5.lt; have c_B7 := B7.cell; have f_B7 := B7.frozen; have l_B7 := B7.lt; have c_B8 := B8.cell; have f_B8 := B8.frozen; have l_B8 := B8.lt
  go_wp2_with fail
  refine (HLI.out _ (by (repeat' (first | exact Ext.refl _ | assumption | apply Ext.alloc | apply Ext.drew | refine Ext.set ?_ (by dsimp only; omega) _ | refine Ext.trans ?_ (by assumption))))).mono ?_
  rintro e w2 ⟨rfl, h2⟩
  obtain ⟨q, hq⟩ : ∃ q, q = w1.heap.size := ⟨_, rfl⟩
  have B12 : Blk w2 (q + 1) 112 #[.int .i64 (-g), .int .i64 g, .int .i64 (-g), .int .i64 g] := by rw [hq]; exact (Blk.newAt (by simp)).ext h2
  have h12 : Ext w1 w2 := Ext.trans (by (repeat' (first | exact Ext.refl _ | assumption | apply Ext.alloc | apply Ext.drew | refine Ext.set ?_ (by dsimp only; omega) _ | refine Ext.trans ?_ (by assumption)))) h2
  have oq : w.heap.size + 1 + 1 + 1 < q := by have := B8.lt; omega
  have oq2 : q + 1 < w2.heap.size := B12.lt
  rw [← hq]
  clear c_B4 f_B4 l_B4 c_B5 f_B5 l_B5 c_B7 f_B7 l_B7 c_B8 f_B8 l_B8
  replace B4 := B4.ext h12
  replace B5 := B5.ext h12
  replace B7 := B7.ext h12
  replace B8 := B8.ext h12
  replace E := E.trans h12
  clear h2 h12 hq HLI
  have c_B4 := B4.cell; have f_B4 := B4.frozen; have l_B4 := B4.lt; have c_B5 := B5.cell; have f_B5 := B5.frozen; have l_B5 := B5.lt; have c_B7 := B7.cell; have f_B7 := B7.frozen; have l_B7 := B7.lt
  go_wp2_with fail
  refine (HHE.out _ (by (repeat' (first | exact Ext.refl _ | assumption | apply Ext.alloc | apply Ext.drew | refine Ext.set ?_ (by dsimp only; omega) _ | refine Ext.trans ?_ (by assumption))))).mono ?_
  rintro e w3 ⟨rfl, h3⟩
  obtain ⟨r, hr⟩ : ∃ r, r = w2.heap.size := ⟨_, rfl⟩
  have B13 : Blk w3 r 112 #[.int .i64 lxl, .int .i64 lxh, .int .i64 lyl, .int .i64 lyh] := (Blk.newAt hr).ext h3
  have h23 : Ext w2 w3 := Ext.trans (by (repeat' (first | exact Ext.refl _ | assumption | apply Ext.alloc | apply Ext.drew | refine Ext.set ?_ (by dsimp only; omega) _ | refine Ext.trans ?_ (by assumption)))) h3
  have or_ : q + 1 < r := by omega
  rw [← hr]
  clear c_B4 f_B4 l_B4 c_B5 f_B5 l_B5 c_B7 f_B7 l_B7
  replace B4 := B4.ext h23
  replace B7 := B7.ext h23
  replace B8 := B8.ext h23
  replace B12 := B12.ext h23
  replace E := E.trans h23
  have or2 : r < w3.heap.size := B13.lt
  clear h3 h23 hr HHE B5
  have c_B13 := B13.cell; have f_B13 := B13.frozen; have l_B13 := B13.lt
  go_wp2_with fail
  refine name_world _ ?_
  intro W4 hW4
  have HW4 : Hid (W4.ownsRow w3.heap.size 112 4 (.slice (some ⟨w3.heap.size + 1, 0, none⟩) 2 2) (2 + 0) (((⟨⟨lxl, lxh⟩, lyl, lyh⟩ : Ar) :: ⟨⟨exl, exh⟩, eyl, eyh⟩ :: PS.take 0).flatMap arC)) := by
    rw [hW4]
    have := World.ownsRow_lit (base := w3.heap.size) (e := 112) (size := 4) (w3.alloc (.cells #[.int .i64 exl, .int .i64 exh, .int .i64 eyl, .int .i64 eyh] 112)) #[.int .i64 lxl, .int .i64 lxh, .int .i64 lyl, .int .i64 lyh, .int .i64 exl, .int .i64 exh, .int .i64 eyl, .int .i64 eyh] 2 (by simp) (by unfold maxLen; omega) rfl
    have e : (w3.alloc (.cells #[.int .i64 exl, .int .i64 exh, .int .i64 eyl, .int .i64 eyh] 112)).heap.size = w3.heap.size + 1 := by simp
    rw [e] at this
    exact this
  have E4 : Ext w3 W4 := by rw [hW4]; (repeat' (first | exact Ext.refl _ | assumption | apply Ext.alloc | apply Ext.drew | refine Ext.set ?_ (by dsimp only; omega) _ | refine Ext.trans ?_ (by assumption)))
  clear c_B13 f_B13 l_B13
  clear hW4 B13
  go_loopw [17, 18] (fun ps i wr => ∃ k : Nat, k ≤ n ∧ i = .int .i64 k ∧ Hid (wr.ownsRow w3.heap.size 112 4 ps (2 + k) (((⟨⟨lxl, lxh⟩, lyl, lyh⟩ : Ar) :: ⟨⟨exl, exh⟩, eyl, eyh⟩ :: PS.take k).flatMap arC)) ∧ Ext w3 wr) (fun _ i _ => n - (intOf i).toNat)
  case atStart => exact ⟨0, Nat.zero_le _, rfl, HW4, E4⟩
  case round =>
    clear HW4 E4
    obtain ⟨k, hk, rfl, HOW, hb⟩ := hrel
    have C4 := B4.ext hb
    have C7 := B7.ext hb
    have EE := E.trans hb
    have hz := hb.size
    by_cases hlt : k < n
    · obtain ⟨y, hy, hY⟩ := HO.out k hlt
      have HY := Lib.hid hY
      have htk : PS.take (k + 1) = PS.take k ++ [y] := by rw [List.take_add_one, hy]; rfl
      have HTK := Lib.hid htk
      clear hY htk hy
      obtain ⟨⟨yxl, yxh⟩, yyl, yyh⟩ := y
      have c_C4 := C4.cell; have f_C4 := C4.frozen; have l_C4 := C4.lt; have c_C7 := C7.cell; have f_C7 := C7.frozen; have l_C7 := C7.lt
      go_wp2_with fail
      refine (HY.out _ EE).mono ?_
      rintro e w5 ⟨rfl, h5⟩
      have HO5 := Lib.hid (own_ext_keep HOW.out h5)
      have E5 := hb.trans h5
      have hz5 := E5.size
      clear c_C4 f_C4 l_C4 c_C7 f_C7 l_C7
      clear h5 HOW C4 C7 HY
      go_wp2_with (at_builtin; go_loud (refine wpList_append_sl rfl (.tmp 64) (.tmp 70) 197 rfl w3.heap.size 112 ia _ 4 32 Tryz.underlying197 hia ha0 ha1 ha2 rfl (by decide) _ (2 + k) _ rfl (own_ext_keep HO5.out (by (repeat' (first | exact Ext.refl _ | assumption | apply Ext.alloc | apply Ext.drew | refine Ext.set ?_ (by dsimp only; omega) _ | refine Ext.trans ?_ (by assumption))))) (some ⟨_, 0, none⟩) 1 1 [.int .i64 yxl, .int .i64 yxh, .int .i64 yyl, .int .i64 yyh] rfl rfl (.inr ⟨_, rfl, new_cells rfl⟩) (by simp [Value.oneCell']) (by unfold maxLen; omega) (by omega) (by simp only [World.size_alloc]; omega) ?_))
      intro v' w6 ho6 hg6 _
      have e6 : Ext w3 w6 := own_ext (E5.alloc _) (own_ext_keep HO5.out (Ext.alloc0 _ _)) hg6 (Nat.le_refl _)
      have HO6 : Hid (w6.ownsRow w3.heap.size 112 4 v' (2 + (k + 1)) (((⟨⟨lxl, lxh⟩, lyl, lyh⟩ : Ar) :: ⟨⟨exl, exh⟩, eyl, eyh⟩ :: PS.take (k + 1)).flatMap arC)) := by
        rw [HTK.out, show 2 + (k + 1) = 2 + k + 1 by omega, ← List.cons_append, ← List.cons_append, List.flatMap_append]
        exact ho6
      clear ho6 hg6 HO5 E5
      go_wp2_with fail
      go_roundw
      case rel => exact ⟨k + 1, by omega, by go_num, HO6, e6⟩
      case measure => simp [intOf]; omega
    · have hkn : k = n := by omega
      have hps : PS.take k = PS := by rw [hkn, ← HPl.out, List.take_length]
      obtain ⟨gb, cap, rfl, hgb, _⟩ := own_some HOW.out (by
        rintro rfl
        rcases HOW.out.2 with ⟨_, h0⟩ | ⟨_, _, _, h0, _⟩
        · omega
        · cases h0)
      obtain ⟨L, hL⟩ : ∃ L, L = (⟨⟨lxl, lxh⟩, lyl, lyh⟩ : Ar) :: ⟨⟨exl, exh⟩, eyl, eyh⟩ :: PS := ⟨_, rfl⟩
      have hLl : 2 + k = L.length := by rw [hL, List.length_cons, List.length_cons, HPl.out, hkn]; omega
      have HOW2 : Hid (wr.ownsRow w3.heap.size 112 4 (.slice (some ⟨gb, 0, none⟩) (2 + k) cap) L.length (L.flatMap arC)) := by
        have h := HOW.out
        rw [hps, ← hL, hLl] at h
        rw [hLl]
        exact h
      have HT2 : Hid (L.foldl sumA ⟨⟨-g, g⟩, -g, g⟩ = T) := by rw [hL]; exact HT.out
      have HSM2 : Hid (∀ y ∈ L, SmA 1152921504606847 y) := by rw [hL]; exact HSM.out
      have HLl := Lib.hid hLl
      have C12 := B12.ext hb
      have C8 := B8.ext hb
      have hk2 : 2 + k ≤ 10 := by omega
      clear HOW hps hL hLl HT HSM HO C7 hkn
      have c_C4 := C4.cell; have f_C4 := C4.frozen; have l_C4 := C4.lt
      go_wp2_with fail
      clear c_C4 f_C4 l_C4
      clear C4
      obtain ⟨wo, rfl⟩ : ∃ wo : World, wo = wr := ⟨_, rfl⟩
      go_loopw [19] (fun i wr => ∃ (j : Nat) (o : Ar), j ≤ 2 + k ∧ i = .int .i64 j ∧ Hid ((L.drop j).foldl sumA o = T) ∧ Hid (SmA (1000 + 1152921504606847 * j) o) ∧ Hid (wr.ownsRow w3.heap.size 112 4 (.slice (some ⟨gb, 0, none⟩) (2 + k) cap) L.length (L.flatMap arC)) ∧ Hid (Blk wr (q + 1) 112 #[.int .i64 o.x.lo, .int .i64 o.x.hi, .int .i64 o.y.lo, .int .i64 o.y.hi]) ∧ Hid (Blk wr (w.heap.size + 1 + 1 + 1) 112 #[.int .i64 0, .int .i64 0, .int .i64 0, .int .i64 0]) ∧ Ext w wr) (fun i _ => 2 + k - (intOf i).toNat)
      case atStart => exact ⟨0, ⟨⟨-g, g⟩, -g, g⟩, Nat.zero_le _, rfl, HT2, Lib.hid (by simpa using HGas.out), HOW2, C12, C8, EE⟩
      case round =>
        clear HT2 HOW2 C12 C8
        obtain ⟨j, o, hj, rfl, HI, HSo, HOW, D12, D8, EW⟩ := hrel
        have hAr := own_sl ar_len (ar_read wr) HOW.out
        obtain ⟨A', c', hA', hAr⟩ := hAr
        injection hA' with e1 e2 e3
        subst e1 e3
        clear e2
        have c12 := D12.out.cell
        have f12 := D12.out.frozen
        have l12 := D12.out.lt
        by_cases hjk : j < 2 + k
        · obtain ⟨b2, off2, y, hA2, HD, hym, hy⟩ := hAr.one (show j < L.length by have := HLl.out; omega)
          injection hA2 with hA2
          injection hA2 with e4 e5 _
          subst e4 e5
          obtain ⟨hy0, hy1, hy2, hy3⟩ := hy
          simp only [Nat.zero_add] at hy0 hy1 hy2 hy3
          have hbl : gb < wr.heap.size := World.block_lt_of_cell? wr _ hy0
          have hi := HI.out
          rw [HD.out, List.foldl_cons] at hi
          have hys := HSM2.out y hym
          have hsum := HSo.out.add hys
          obtain ⟨⟨oxl, oxh⟩, oyl, oyh⟩ := o
          obtain ⟨⟨yxl, yxh⟩, yyl, yyh⟩ := y
          dsimp only at hy0 hy1 hy2 hy3 c12
          have HS : Hid (∀ (s1 s2 t1 t2 : Int), ((s1 = oxl ∧ s2 = oxh ∧ t1 = yxl ∧ t2 = yxh) ∨ (s1 = oyl ∧ s2 = oyh ∧ t1 = yyl ∧ t2 = yyh)) → ∀ W, Calls Tryz.prog 168 #[.agg #[.int .i64 s1, .int .i64 s2], .agg #[.int .i64 t1, .int .i64 t2]] W fun e w' => e = .returned (.agg #[.int .i64 (s1 + t1), .int .i64 (s2 + t2)]) ∧ Ext W w') := by
            refine Lib.hid fun s1 s2 t1 t2 h W => ?_
            have hg := gSum_c s1 s2 t1 t2 W
            have hbd : 1000 + 1152921504606847 * (j : Int) + 1152921504606847 ≤ 1152921504606846976 := by omega
            have hss : addS ⟨s1, s2⟩ ⟨t1, t2⟩ = ⟨s1 + t1, s2 + t2⟩ := by
              rcases h with ⟨rfl, rfl, rfl, rfl⟩ | ⟨rfl, rfl, rfl, rfl⟩
              · exact addS_small HSo.out.1 hys.1 (by omega) (by omega) hbd
              · exact addS_small HSo.out.2 hys.2 (by omega) (by omega) hbd
            rw [hss] at hg
            exact hg
          have Hi : Hid ((L.drop (j + 1)).foldl sumA ⟨⟨oxl + yxl, oxh + yxh⟩, oyl + yyl, oyh + yyh⟩ = T) := hi
          have HSn : Hid (SmA (1000 + 1152921504606847 * ((j + 1 : Nat) : Int)) ⟨⟨oxl + yxl, oxh + yxh⟩, oyl + yyl, oyh + yyh⟩) := Lib.hid (SmA.mono hsum (by push_cast; omega))
          have hne : gb ≠ q + 1 := by omega
          clear hi hsum hys HI HD hym hAr
          go_wp2_with fail
          refine wp_region_forced 17 (Ext _) (Stable.ext _) (Ext.drew (Ext.refl _)) (by kernel_rfl) (by kernel_rfl) ?_
          simp only [List.take_succ_cons, List.take_zero, List.drop_succ_cons, List.drop_zero]
          (repeat' (first | (refine bl_off (by rfl) ?_; simp only [Act.put, List.setIfInBounds_toArray, List.set_cons_zero, List.set_cons_succ]) | (apply bl_op; rfl; (intro w1 h1; obtain ⟨hc, hf, hz⟩ := bcell h1; go_simp; (try go_bits); (first | exact ⟨rfl, Ext.refl _⟩ | (apply gives_call; first | (go_at_call 168; exact HS.out _ _ _ _ (by first | exact .inl ⟨rfl, rfl, rfl, rfl⟩ | exact .inr ⟨rfl, rfl, rfl, rfl⟩) _)) | (go_invoke; go_simp; apply gives_call; first | (go_at_call 168; exact HS.out _ _ _ _ (by first | exact .inl ⟨rfl, rfl, rfl, rfl⟩ | exact .inr ⟨rfl, rfl, rfl, rfl⟩) _)))); simp only [Act.put, List.setIfInBounds_toArray, List.set_cons_zero, List.set_cons_succ]) | (refine bl_split rfl rfl (fun hx => ?_) (fun hx => ?_) <;> simp only [hx])))
          refine bl_nil ?_
          intro w5 h5
          have HOW5 := Lib.hid (own_ext_keep HOW.out h5)
          have F12 := D12.out.ext h5
          have F8 := D8.out.ext h5
          have E5 := EW.trans h5
          clear h5 HOW D12 D8 c12 f12 l12 hy0 hy1 hy2 hy3 hbl HS
          have c_F12 := F12.cell; have f_F12 := F12.frozen; have l_F12 := F12.lt
          go_wp2_with fail
          go_roundw
          case rel => exact ⟨j + 1, ⟨⟨oxl + yxl, oxh + yxh⟩, oyl + yyl, oyh + yyh⟩, by omega, by go_num, Hi, HSn, own_far (own_far (own_far (own_far HOW5.out hne) hne) hne) hne, blk_set2 (blk_set2 F12 rfl) rfl, blk_far2 (blk_far2 F8 (by omega)) (by omega), ext_set2 (ext_set2 E5 (by omega)) (by omega)⟩
          case measure => simp [intOf]; omega
        · have hjL : j = L.length := by have := HLl.out; omega
          have hi := HI.out
          rw [hjL, List.drop_length] at hi
          have Hi : Hid (o = T) := hi
          have c8 := D8.out.cell
          have f8 := D8.out.frozen
          have l8 := D8.out.lt
          obtain ⟨⟨oxl, oxh⟩, oyl, oyh⟩ := o
          clear hi HI hAr HLl hjL
          go_wp2_with fail
          (try simp only [Exit.inBlock, Exit.then]); apply bodyPost_ret; (focus (simp only [results, Tryz.results125]; go_simp; try rfl)); rfl
          exact ⟨ret_v (by rw [← Hi.out]), by (repeat' (first | exact Ext.refl _ | assumption | apply Ext.alloc | apply Ext.drew | refine Ext.set ?_ (by dsimp only; omega) _ | refine Ext.trans ?_ (by assumption)))⟩
theorem gOver_c (A : Option Addr) (n c : Nat) (home : Int) (l : List Body) (d : Drf) (tick : Int) (a : Ar) (w : World) (hl : Bodies w A n l) :
    Calls Tryz.prog 125 #[.agg #[.slice A n c, .int .i64 home], .agg #[.int .i64 d.light.lo, .int .i64 d.light.hi, .int .i64 d.heat.lo, .int .i64 d.heat.hi, .int .i64 d.gas], .int .i64 tick, .agg #[.int .i64 a.x.lo, .int .i64 a.x.hi, .int .i64 a.y.lo, .int .i64 a.y.hi]] w fun e w' =>
      e = .returned (arRV (overM l home d tick a)) ∧ Ext w w' := by
  unfold overM
  by_cases h0 : fAskErr l home d tick a = 0
  · rw [if_pos h0]
    exact gOver_ok A n c home l d tick a w hl h0
  · rw [if_neg h0]
    exact gOver_no A n c home l d tick a w hl h0
set_option maxRecDepth 20000 in
set_option maxHeartbeats 2000000 in
theorem gPullAt_c (A : Option Addr) (n c : Nat) (home : Int) (l : List Body) (d : Drf) (tick x y : Int) (w : World) (hl : Bodies w A n l) :
    Calls Tryz.prog 85 #[.agg #[.slice A n c, .int .i64 home], .agg #[.int .i64 d.light.lo, .int .i64 d.light.hi, .int .i64 d.heat.lo, .int .i64 d.heat.hi, .int .i64 d.gas], .int .i64 tick, .agg #[.int .i64 x, .int .i64 y]] w fun e w' =>
      e = .returned (arRV (overM l home d tick ⟨⟨x, x⟩, ⟨y, y⟩⟩)) ∧ Ext w w' := by
  have HO := Lib.hid fun W (hW : Ext w W) => gOver_c A n c home l d tick ⟨⟨x, x⟩, ⟨y, y⟩⟩ W (Bodies.ext hW hl)
  generalize overM _ _ _ _ _ = R at *
  obtain ⟨⟨⟨xl, xh⟩, yl, yh⟩, e⟩ := R
  dsimp only at HO ⊢
  clear hl
  go_enter Tryz.func85, Tryz.ntmps85
  go_wp2_with fail
  refine wp_region_forced 8 (Ext _) (Stable.ext _) (Ext.drew (Ext.refl _)) (by kernel_rfl) (by kernel_rfl) ?_
  simp only [List.take_succ_cons, List.take_zero, List.drop_succ_cons, List.drop_zero]
  (repeat' (first | (refine bl_off (by rfl) ?_; simp only [Act.put, List.setIfInBounds_toArray, List.set_cons_zero, List.set_cons_succ]) | (apply bl_op; rfl; (intro w1 h1; obtain ⟨hc, hf, hz⟩ := bcell h1; go_simp; (try go_bits); (first | exact ⟨rfl, Ext.refl _⟩ | (apply gives_call; first | (go_at_call 128; exact gAt_c _ _ _) | (go_at_call 125; exact HO.out _ (by (repeat' (first | exact Ext.refl _ | assumption | apply Ext.alloc | apply Ext.drew | refine Ext.set ?_ (by dsimp only; omega) _ | refine Ext.trans ?_ (by assumption)))))) | (go_invoke; go_simp; apply gives_call; first | (go_at_call 128; exact gAt_c _ _ _) | (go_at_call 125; exact HO.out _ (by (repeat' (first | exact Ext.refl _ | assumption | apply Ext.alloc | apply Ext.drew | refine Ext.set ?_ (by dsimp only; omega) _ | refine Ext.trans ?_ (by assumption)))))))); simp only [Act.put, List.setIfInBounds_toArray, List.set_cons_zero, List.set_cons_succ]) | (refine bl_split rfl rfl (fun hx => ?_) (fun hx => ?_) <;> simp only [hx])))
  refine bl_nil ?_
  intro w1 h1
  obtain ⟨hc_w1, hf_w1, hz_w1⟩ := bcell h1; (repeat (first | rw [World.size_alloc] at hz_w1 | rw [World.size_drew] at hz_w1 | rw [World.size_setCell] at hz_w1)); (try (have : w.heap.size < w1.heap.size := (by omega))); (try (have : w.heap.size + 1 < w1.heap.size := (by omega))); (try (have : w.heap.size + 1 + 1 < w1.heap.size := (by omega))); (try (have : w.heap.size + 1 + 1 + 1 < w1.heap.size := (by omega))); (try (have : w.heap.size + 1 + 1 + 1 + 1 < w1.heap.size := (by omega)))
  go_wp2_with fail
  (try simp only [Exit.inBlock, Exit.then]); apply bodyPost_ret; (focus (simp only [results, Tryz.results85]; go_simp; try rfl)); rfl
  exact ⟨rfl, by (repeat' (first | exact Ext.refl _ | assumption | apply Ext.alloc | apply Ext.drew | refine Ext.set ?_ (by dsimp only; omega) _ | refine Ext.trans ?_ (by assumption)))⟩
end Go.Proofs.YtfniicgoeljmdaaGreat
