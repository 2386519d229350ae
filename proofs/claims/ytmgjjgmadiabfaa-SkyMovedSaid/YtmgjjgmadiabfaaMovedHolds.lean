/- What a sight says does not change if the world is moved, nor if the direction is made longer. No condition. Worlds that are moved: the row's statement. No condition. -/
import Derived.Test.YtmgjjgmadiabfaaMoveOwn
import Derived.Test.YtmgjjgmadiabfaaSkyOutside
import Derived.Test.YtmgjjgmadiabfaaLast
import Derived.Test.YtmgjjgmadiabfaaLaw
namespace Go.Proofs.Ytmgjjgmadiabfaa
open Go.RowKit

theorem MadeSky.small {s : Sky} (h : MadeSky s) : bigSky s = false := by
  have h1 := h.nb
  have h2 := h.ns
  have h3 := h.nc
  unfold bigSky bigWld
  have hb : s.world.bodies.any bigB = false := by
    rw [List.any_eq_false]
    intro b hb
    have := (h.bodies b hb).2.2.1
    unfold bigB
    simp
    omega
  rw [hb]
  simp
  omega
theorem runs_skip {P : Program} {w w1 : World} {o : Oper} {a : Act} {G : Value → World → Prop} (hrun : (execOp a.eval o).run P w = .ok .skip w1) (h : G undef w1) : RunsTo P G ((execOp a.eval o).run P w) := by
  rw [hrun]; exact h
theorem blk_ne2 {w : World} {b b' : Nat} {t t' : TypeId} {cs cs' : Array Value} (h : Blk w b t cs) (h' : Blk w b' t' cs') (hs : t ≠ t') : b ≠ b' := by
  rintro rfl
  have := h.symm.trans h'
  simp only [Option.some.injEq, Obj.cells.injEq] at this
  exact hs this.2.1
theorem run_max5 {P : Program} (ts : Array TypeId) (t : TypeId) (a b c d e : Int) : ∃ m, ((a ≤ m ∧ b ≤ m) ∧ (c ≤ m ∧ d ≤ m) ∧ e ≤ m) ∧ (∀ u, a ≤ u → b ≤ u → c ≤ u → d ≤ u → e ≤ u → m ≤ u) ∧
    ∀ w, (Builtin.max_ ts t #[.int .i64 a, .int .i64 b, .int .i64 c, .int .i64 d, .int .i64 e]).run P w = .ok (.int .i64 m) w := by
  have h : ∀ x y : Int, x ≤ (if y > x then y else x) ∧ y ≤ (if y > x then y else x) ∧ ∀ u, x ≤ u → y ≤ u → (if y > x then y else x) ≤ u := fun x y => by
    split
    · exact ⟨by omega, by omega, fun _ _ h => h⟩
    · exact ⟨by omega, by omega, fun _ h _ => h⟩
  have k : ∀ w, (Builtin.max_ ts t #[.int .i64 a, .int .i64 b, .int .i64 c, .int .i64 d, .int .i64 e]).run P w = .ok (.int .i64 (if e > (if d > (if c > (if b > a then b else a) then c else (if b > a then b else a)) then d else (if c > (if b > a then b else a) then c else (if b > a then b else a))) then e else (if d > (if c > (if b > a then b else a) then c else (if b > a then b else a)) then d else (if c > (if b > a then b else a) then c else (if b > a then b else a))))) w := fun w => by simp [Builtin.max_, Builtin.max2]
  have h1 := h a b
  generalize (if b > a then b else a) = m1 at h1 k
  have h2 := h m1 c
  generalize (if c > m1 then c else m1) = m2 at h2 k
  have h3 := h m2 d
  generalize (if d > m2 then d else m2) = m3 at h3 k
  have h4 := h m3 e
  generalize (if e > m3 then e else m3) = m4 at h4 k
  exact ⟨m4, ⟨⟨by omega, by omega⟩, ⟨by omega, by omega⟩, by omega⟩, fun u q1 q2 q3 q4 q5 => h4.2.2 u (h3.2.2 u (h2.2.2 u (h1.2.2 u q1 q2) q3) q4) q5, k⟩
theorem mul_in {d b f : Int} (h1 : d ≤ b) (h2 : -d ≤ b) (hf : 0 ≤ f) (h : f * b ≤ 4096) : -4096 ≤ d * f ∧ d * f ≤ 4096 := by
  have a1 := Int.mul_le_mul_of_nonneg_right h1 hf
  have a2 := Int.mul_le_mul_of_nonneg_right h2 hf
  rw [Int.mul_comm f b] at h
  rw [Int.neg_mul] at a2
  omega
/-- As wp_region_last; the last operation as pick1. -/
theorem wp_region_last1 {P : Program} {Q : Exit → Act → World → Prop} {id : Nat} {l : List Oper} (n : Nat) (S : World → Prop) {a : Act} {w : World} (hst : Stable S) (hS : S w.drew) (hm : P.follows .mixedOrders = true) (hok : lastOk l.toArray n = true)
    (h : BL P l.toArray S (l.take n) a (fun a' => ∀ w', S w' → (pick1 l n).guard = none ∧ RunsTo P (fun v w1 => Q .normal (a'.put (pick1 l n).dst v) w1) ((execOp a'.eval (pick1 l n)).run P w'))) : (Code.region id l.toArray true).wp P Q a w := by
  rw [pick1_eq] at h
  exact wp_region_last n S hst hS hm hok h

set_option maxRecDepth 4000 in
set_option maxHeartbeats 4000000 in
theorem SkyMoved_c (A : Option Addr) (n c : Nat) (l : List Int) (ax ay amx amy af : Int) (w : World) (hl : Ints w A n l) :
    Calls Try.prog 9 #[.slice A n c, .int .i64 ax, .int .i64 ay, .int .i64 amx, .int .i64 amy, .int .i64 af] w fun e w' => e = .returned (.bool true) ∧ Ext w w' := by
  go_enter Try.func9, Try.ntmps9
  go_wp2_with fail
  refine (made_c A n c l _ hl).mono ?_
  rintro e w1 ⟨A1, n1, c1, home, A2, n2, c2, A3, n3, c3, s, px, py, kind, st, cat, tick, dx, dy, er, lo, hi, bs, rfl, hO, hs, hm, ⟨⟨hp1, hp2⟩, hp3, hp4⟩, hx, h1⟩
  go_wp2_with fail
  obtain ⟨W1, hW1⟩ : ∃ W, W = ((w1.alloc (.cells #[.slice A1 n1 c1, .int .i64 home, .slice A2 n2 c2, .slice A3 n3 c3] 28)).alloc (.cells #[.int .i64 px, .int .i64 py] 30)).alloc (.cells #[.int .i64 kind, .int .i64 st, .int .i64 cat, .int .i64 tick, .int .i64 dx, .int .i64 dy, .int .i64 er, .int .i64 lo, .int .i64 hi] 32) := ⟨_, rfl⟩
  rw [← hW1]
  have hE1 : Ext w1 W1 := by rw [hW1]; (repeat' (first | exact Ext.refl _ | assumption | apply Ext.alloc | apply Ext.drew | refine Ext.set ?_ (by dsimp only; omega) _ | refine Ext.trans ?_ (by assumption)))
  have hA1 : Blk W1 w1.heap.size 28 #[.slice A1 n1 c1, .int .i64 home, .slice A2 n2 c2, .slice A3 n3 c3] := by rw [hW1]; exact (((Blk.newAt rfl).alloc _).alloc _)
  have hA2 : Blk W1 (w1.heap.size + 1) 30 #[.int .i64 px, .int .i64 py] := by rw [hW1]; exact ((Blk.newAt (by simp)).alloc _)
  have hA3 : Blk W1 (w1.heap.size + 1 + 1) 32 #[.int .i64 kind, .int .i64 st, .int .i64 cat, .int .i64 tick, .int .i64 dx, .int .i64 dy, .int .i64 er, .int .i64 lo, .int .i64 hi] := by rw [hW1]; exact (Blk.newAt (by simp))
  clear hW1
  have hs1 := hs.ext hE1
  have hc2 := hA2.cell
  have hl1 := hA1.lt
  have hl2 := hA2.lt
  have hl3 := hA3.lt
  have hm1 : 0 ≤ ax % 401 ∧ ax % 401 < 401 := ⟨by omega, by omega⟩
  have hm2 : 0 ≤ ay % 401 ∧ ay % 401 < 401 := ⟨by omega, by omega⟩
  refine wp_region_chain1 true [] [0, 1, 2, 3, 4, 5, 6, 7, 8, 9, 10, 11, 12] 13 [14] (Ext _) (Ext _) _ (w1.heap.size) 30 #[.int .i64 0, .int .i64 0] (Stable.ext _) (fun _ h => h) (Ext.drew (Ext.refl _)) (by kernel_rfl) (by kernel_rfl) rfl (fun a w => by simp only [pick1, List.drop_succ_cons, List.drop_zero]; go_simp) (fun w h => ⟨h.size, Nat.lt_of_lt_of_le (by omega) h.size⟩) ?_; simp only [XO, pick, List.drop_succ_cons, List.drop_zero]; (repeat' (first | (refine bl_off (by rfl) ?_; simp only [Act.put, List.setIfInBounds_toArray, List.set_cons_zero, List.set_cons_succ]) | (apply bl_op; rfl; (intro w1 h1; obtain ⟨hc, hf, hz⟩ := bcell h1; go_simp; (try go_bits); (first | exact ⟨rfl, Ext.refl _⟩ | (apply gives_call; go_at_call 24; exact (Mod64_c _ _ _ (by omega) (by omega)).mono fun _ _ ⟨h, hw⟩ => ⟨h, hw ▸ Ext.refl _⟩) | (go_invoke; go_simp; apply gives_call; go_at_call 24; exact (Mod64_c _ _ _ (by omega) (by omega)).mono fun _ _ ⟨h, hw⟩ => ⟨h, hw ▸ Ext.refl _⟩))); simp only [Act.put, List.setIfInBounds_toArray, List.set_cons_zero, List.set_cons_succ]) | (refine bl_split rfl rfl (fun hx => ?_) (fun hx => ?_) <;> simp only [hx]))); refine bl_nil ?_; intro b16 hb_b16 hg_b16; (try simp only [pick1, List.drop_succ_cons, List.drop_zero]); (try simp only [List.setIfInBounds_toArray, List.set_cons_zero, List.set_cons_succ]); refine tl_last rfl rfl (fun wx ⟨hx, hBx⟩ => ?_); have hcB := hBx.cell; have hfB := hBx.frozen; have hlB := hBx.lt; refine ⟨_, (by go_simp; rfl), ?_⟩; have q0 : Blk (wx.setCell ⟨b16, 0, none⟩ (.int .i64 (px + ax % 401 - 200))) b16 30 #[.int .i64 (px + ax % 401 - 200), .int .i64 0] := hBx.set_ 0 _; have p0 : Ext _ (wx.setCell ⟨b16, 0, none⟩ (.int .i64 (px + ax % 401 - 200))) := Ext.set hx (by dsimp only; omega) _; have q1 : Blk ((wx.setCell ⟨b16, 0, none⟩ (.int .i64 (px + ax % 401 - 200))).setCell ⟨b16, 1, none⟩ (.int .i64 (py + ay % 401 - 200))) b16 30 #[.int .i64 (px + ax % 401 - 200), .int .i64 (py + ay % 401 - 200)] := q0.set_ 1 _; have p1 : Ext _ ((wx.setCell ⟨b16, 0, none⟩ (.int .i64 (px + ax % 401 - 200))).setCell ⟨b16, 1, none⟩ (.int .i64 (py + ay % 401 - 200))) := Ext.set p0 (by dsimp only; omega) _; revert q1 p1; clear hcB hfB hBx hlB hx; (try clear q0 p0); generalize World.setCell _ _ _ = W2; intro hB_b16 hE_W2
  obtain ⟨cx, hcx⟩ : ∃ q, q = px + ax % 401 - 200 := ⟨_, rfl⟩
  obtain ⟨cy, hcy⟩ : ∃ q, q = py + ay % 401 - 200 := ⟨_, rfl⟩
  rw [← hcx, ← hcy] at hB_b16
  try rw [← hcx, ← hcy]
  have hq : (-4300 ≤ cx ∧ cx ≤ 4300) ∧ -4300 ≤ cy ∧ cy ≤ 4300 := by omega
  obtain ⟨⟨hq1, hq2⟩, hq3, hq4⟩ := hq
  have hA2' := hA1.ext hE_W2
  have hX2' := hA3.ext hE_W2
  have hs2 := hs1.ext hE_W2
  have hE2 : Ext w W2 := (h1.trans hE1).trans hE_W2
  clear hcx hcy hm1 hm2 hE_W2 hA1 hA2 hA3 hs1 hs h1 hl1 hl2 hl3 hc2 hO hE1 hp1 hp2 hp3 hp4
  obtain ⟨mx, hmx⟩ : ∃ q, q = amx % 100000 := ⟨_, rfl⟩
  obtain ⟨my, hmy⟩ : ∃ q, q = amy % 100000 := ⟨_, rfl⟩
  have hmx1 : 0 ≤ mx ∧ mx < 100000 := by omega
  have hmy1 : 0 ≤ my ∧ my < 100000 := by omega
  have HM1 := Lib.hid fun W => Mod64_c amx 100000 W (by omega) (by omega)
  have HM2 := Lib.hid fun W => Mod64_c amy 100000 W (by omega) (by omega)
  rw [← hmx] at HM1
  rw [← hmy] at HM2
  clear hmx hmy
  go_wp2_with fail
  refine (HM1.out _).mono ?_
  rintro e _ ⟨rfl, rfl⟩
  go_wp2_with fail
  refine (HM2.out _).mono ?_
  rintro e _ ⟨rfl, rfl⟩
  go_wp2_with fail
  have hlA := hA2'.lt
  have hcA := hA2'.cell
  have hlX := hX2'.lt
  have hcX := hX2'.cell
  have HS2 := Lib.hid hs2
  have HOS := Lib.hid fun W (hW : Ext W2 W) => OwnSky_c A1 n1 c1 home A2 n2 c2 A3 n3 c3 s W (hs2.ext hW) hm.small
  refine wp_region_rel [0, 2] [⟨1, [], none⟩, ⟨3, [], none⟩, ⟨4, [], none⟩, ⟨5, [1, 3], some ([3], [1, 4, 6])⟩, ⟨6, [4], some ([4], [1, 3, 5])⟩]
    [(⟨1, [], none⟩, fun _ v w => ∃ B1 m1 d1 B2 m2 d2 B3 m3 d3 bs, v = .agg #[.slice B1 m1 d1, .int .i64 home, .slice B2 m2 d2, .slice B3 m3 d3] ∧ OwnSky W2.heap.size w (.slice B1 m1 d1) (.slice B2 m2 d2) (.slice B3 m3 d3) s bs),
     (⟨3, [], none⟩, fun _ v w => ∃ b, v = .pointer (some ⟨b, 0, none⟩) ∧ Blk w b 28 zsky ∧ W2.heap.size ≤ b),
     (⟨4, [], none⟩, fun _ v w => ∃ b, v = .pointer (some ⟨b, 0, none⟩) ∧ Blk w b 32 #[.int .i64 0, .int .i64 0, .int .i64 0, .int .i64 0, .int .i64 0, .int .i64 0, .int .i64 0, .int .i64 0, .int .i64 0] ∧ W2.heap.size ≤ b),
     (⟨5, [1, 3], some ([3], [1, 4, 6])⟩, fun val _ w => ∃ b u1 u2 u3, val 3 = .pointer (some ⟨b, 0, none⟩) ∧ val 1 = .agg #[u1, .int .i64 home, u2, u3] ∧ Blk w b 28 #[u1, .int .i64 home, u2, u3] ∧ W2.heap.size ≤ b),
     (⟨6, [4], some ([4], [1, 3, 5])⟩, fun val _ w => ∃ b, val 4 = .pointer (some ⟨b, 0, none⟩) ∧ Blk w b 32 #[.int .i64 kind, .int .i64 st, .int .i64 cat, .int .i64 tick, .int .i64 dx, .int .i64 dy, .int .i64 er, .int .i64 lo, .int .i64 hi] ∧ W2.heap.size ≤ b)]
    (Ext W2) (Ext W2) (Stable.ext _) (fun _ h => h) (Ext.drew (Ext.refl _)) (by kernel_rfl) rfl (by kernel_rfl) ?_
  simp only [pick, List.drop_succ_cons, List.drop_zero]
  repeat' (first | (refine bl_off (by rfl) ?_; simp only [Act.put, List.setIfInBounds_toArray, List.set_cons_zero, List.set_cons_succ]) | (apply bl_op; rfl; (intro w1 h1; obtain ⟨hc, hf, hz⟩ := bcell h1; go_simp; (try go_bits); (first | exact ⟨rfl, Ext.refl _⟩)); simp only [Act.put, List.setIfInBounds_toArray, List.set_cons_zero, List.set_cons_succ]) | (refine bl_split rfl rfl (fun hx => ?_) (fun hx => ?_) <;> simp only [hx]))
  refine bl_nil ?_
  simp only [obF, finF, useF, useEq, spoilF, keepF, getG, Nat.reduceEqDiff, reduceIte, putP, pick1, List.drop_succ_cons, List.drop_zero, List.map_cons, List.map_nil, spoils, List.all_cons, List.all_nil, List.contains_cons, List.contains_nil, Nat.reduceBEq, Bool.or_false, Bool.not_true, Bool.not_false, Bool.and_true, Bool.and_false]
  refine ⟨⟨?_, ?_, ?_, ?_, ?_, trivial⟩, ?_⟩
  · refine ⟨fun val v w w' ⟨B1, m1, d1, B2, m2, d2, B3, m3, d3, bs, h1, h2⟩ e => ⟨B1, m1, d1, B2, m2, d2, B3, m3, d3, bs, h1, h2.ext e⟩, fun _ _ _ _ _ h => h, fun val w hw _ => ?_⟩
    refine runs_call (by go_simp) ((HOS.out w hw).mono fun e w' ⟨v1, v2, v3, bs, he, hO, hE⟩ => ?_)
    obtain ⟨B1, d1, B2, d2, B3, d3, rfl, rfl, rfl, _⟩ := hO.sky
    exact ⟨_, he, ⟨_, _, _, _, _, _, _, _, _, bs, rfl, hO.mono hw.size⟩, hE⟩
  · exact ⟨fun val v w w' ⟨b, h1, h2, h3⟩ e => ⟨b, h1, h2.ext e, h3⟩, fun _ _ _ _ _ h => h, fun val w hw _ => runs_to (w1 := w.alloc (.cells zsky 28)) (by go_simp) ⟨⟨_, rfl, Blk.new _ _ _, hw.size⟩, Ext.alloc0 _ _⟩⟩
  · exact ⟨fun val v w w' ⟨b, h1, h2, h3⟩ e => ⟨b, h1, h2.ext e, h3⟩, fun _ _ _ _ _ h => h, fun val w hw _ => runs_to (w1 := w.alloc (.cells #[.int .i64 0, .int .i64 0, .int .i64 0, .int .i64 0, .int .i64 0, .int .i64 0, .int .i64 0, .int .i64 0, .int .i64 0] 32)) (by go_simp) ⟨⟨_, rfl, Blk.new _ _ _, hw.size⟩, Ext.alloc0 _ _⟩⟩
  · refine ⟨fun val v w w' ⟨b, u1, u2, u3, h1, h2, h3, h4⟩ e => ⟨b, u1, u2, u3, h1, h2, h3.ext e, h4⟩, fun val val' v w hv ⟨b, u1, u2, u3, h1, h2, h3, h4⟩ => ⟨b, u1, u2, u3, hv.2.1 ▸ h1, hv.1 ▸ h2, h3, h4⟩, fun val w hw hu => ?_⟩
    obtain ⟨⟨B1, m1, d1, B2, m2, d2, B3, m3, d3, bs, h1, hO⟩, ⟨b, h3, hB, hb⟩, _⟩ := hu
    rw [h1, h3]
    simp only [Act.put, List.setIfInBounds_toArray, List.set_cons_zero, List.set_cons_succ]
    have hcB := hB.cell
    have hfB := hB.frozen
    have hlB := hB.lt
    refine runs_skip (w1 := wrL b w 0 [.slice B1 m1 d1, .int .i64 home, .slice B2 m2 d2, .slice B3 m3 d3]) (by go_simp; rfl) ⟨⟨b, _, _, _, rfl, rfl, (((hB.set_ 0 (.slice B1 m1 d1)).set_ 1 (.int .i64 home)).set_ 2 (.slice B2 m2 d2)).set_ 3 (.slice B3 m3 d3), hb⟩, Ext.setL hb _ _ hw, ?_, ?_, ?_, trivial⟩
    · exact fun val u ⟨B1, m1, d1, B2, m2, d2, B3, m3, d3, bs, h1, h2⟩ => ⟨B1, m1, d1, B2, m2, d2, B3, m3, d3, bs, h1, OwnSky.setL (by decide) (by decide) (by decide) (by decide) _ _ hB h2⟩
    · exact fun val u ⟨b9, k1, k2, k3⟩ => ⟨b9, k1, Blk.farL (blk_ne2 k2 hB (by decide)) _ _ k2, k3⟩
    · exact fun val u ⟨b9, k1, k2, k3⟩ => ⟨b9, k1, Blk.farL (blk_ne2 k2 hB (by decide)) _ _ k2, k3⟩
  · refine ⟨fun val v w w' ⟨b, h1, h3, h4⟩ e => ⟨b, h1, h3.ext e, h4⟩, fun val val' v w hv ⟨b, h1, h3, h4⟩ => ⟨b, hv.1 ▸ h1, h3, h4⟩, fun val w hw hu => ?_⟩
    obtain ⟨⟨b, h3, hB, hb⟩, _⟩ := hu
    rw [h3]
    simp only [Act.put, List.setIfInBounds_toArray, List.set_cons_zero, List.set_cons_succ]
    have hcB := hB.cell
    have hfB := hB.frozen
    have hlB := hB.lt
    refine runs_skip (w1 := wrL b w 0 [.int .i64 kind, .int .i64 st, .int .i64 cat, .int .i64 tick, .int .i64 dx, .int .i64 dy, .int .i64 er, .int .i64 lo, .int .i64 hi]) (by go_simp; rfl) ⟨⟨b, rfl, ((((((((hB.set_ 0 (.int .i64 kind)).set_ 1 (.int .i64 st)).set_ 2 (.int .i64 cat)).set_ 3 (.int .i64 tick)).set_ 4 (.int .i64 dx)).set_ 5 (.int .i64 dy)).set_ 6 (.int .i64 er)).set_ 7 (.int .i64 lo)).set_ 8 (.int .i64 hi), hb⟩, Ext.setL hb _ _ hw, ?_, ?_, ?_, trivial⟩
    · exact fun val u ⟨B1, m1, d1, B2, m2, d2, B3, m3, d3, bs, h1, h2⟩ => ⟨B1, m1, d1, B2, m2, d2, B3, m3, d3, bs, h1, OwnSky.setL (by decide) (by decide) (by decide) (by decide) _ _ hB h2⟩
    · exact fun val u ⟨b9, k1, k2, k3⟩ => ⟨b9, k1, Blk.farL (blk_ne2 k2 hB (by decide)) _ _ k2, k3⟩
    · exact fun val u ⟨b9, u1, u2, u3, k1, k0, k2, k3⟩ => ⟨b9, u1, u2, u3, k1, k0, Blk.farL (blk_ne2 k2 hB (by decide)) _ _ k2, k3⟩
  · intro val w6 h6 hfin
    obtain ⟨f1, _, _, f5, f6, _⟩ := hfin
    obtain ⟨B1, m1, d1, B2, m2, d2, B3, m3, d3, bs, g1, hO⟩ := f1 trivial
    obtain ⟨bt, u1, u2, u3, g3, g2, hBt, hbt⟩ := f5 trivial
    obtain ⟨bx, g4, hBx, hbx⟩ := f6 trivial
    rw [g1] at g2
    simp only [Value.agg.injEq, Array.mk.injEq, List.cons.injEq, and_true, true_and] at g2
    obtain ⟨e1, e2, e3⟩ := g2
    subst e1 e2 e3
    rw [g1, g3, g4]
    simp only [Act.put, List.setIfInBounds_toArray, List.set_cons_zero, List.set_cons_succ]
    obtain ⟨A1', c1', A2', c2', A3', c3', e1, e2, e3, _⟩ := hO.sky
    injection e1 with ea eb ec
    subst ea eb ec
    injection e2 with ea eb ec
    subst ea eb ec
    injection e3 with ea eb ec
    subst ea eb ec
    clear f1 f5 f6 g1 g3 g4 HOS
    have hkb := Lib.hid hm.bodies
    obtain ⟨nb, hnb⟩ : ∃ q, q = s.world.bodies.length := ⟨_, rfl⟩
    have hnb3 : nb ≤ 3 := by have := hm.nb; omega
    have Hnb := Lib.hid hnb
    rw [← hnb] at hBt
    have HO := Lib.hid hO
    have HBt := Lib.hid hBt
    have HBx := Lib.hid hBx
    clear hO hBt hBx hnb
    go_wp2_with fail
    go_loopw [19] (fun iv wr => ∃ j : Nat, j ≤ nb ∧ iv = .int .i64 j ∧ Hid (Blk wr bt 28 #[.slice B1 nb d1, .int .i64 home, .slice B2 s.stations.length d2, .slice B3 s.catalogs.length d3]) ∧ Hid (Blk wr bx 32 #[.int .i64 kind, .int .i64 st, .int .i64 cat, .int .i64 tick, .int .i64 dx, .int .i64 dy, .int .i64 er, .int .i64 lo, .int .i64 hi]) ∧ Hid (OwnSky W2.heap.size wr (.slice B1 nb d1) (.slice B2 s.stations.length d2) (.slice B3 s.catalogs.length d3) ⟨⟨part (mvB mx my) s.world.bodies j, s.world.home⟩, s.stations, s.catalogs⟩ bs) ∧ Ext W2 wr) (fun iv _ => nb - (intOf iv).toNat)
    case atStart => exact ⟨0, Nat.zero_le _, rfl, HBt, HBx, Lib.hid (by rw [part_zero, Hnb.out]; exact HO.out), h6⟩
    case round =>
      obtain ⟨j, hj, rfl, HT, HX, HOj, hb⟩ := hrel
      obtain ⟨wo, rfl⟩ : ∃ wo : World, wo = wr := ⟨_, rfl⟩
      have hcT := HT.out.cell
      have hlT := HT.out.lt
      by_cases hjl : j < nb
      · have hjs : j < s.world.bodies.length := by have := Hnb.out; omega
        have hjp : j < (part (mvB mx my) s.world.bodies j).length := by rw [part_len]; exact hjs
        obtain ⟨g, bk, cap, e1, _, hbk, hcell, hrow⟩ := own_body HOj.out.bodies hjp
        clear hrow
        simp only [part_get _ _ _ hjs] at hcell
        subst e1
        have hgb := hkb.out _ (List.getElem_mem hjs)
        have HP0 : Hid (OwnSky W2.heap.size wo (.slice (some ⟨g, 0, none⟩) nb d1) (.slice B2 s.stations.length d2) (.slice B3 s.catalogs.length d3) ⟨⟨(part (mvB mx my) s.world.bodies j).set j ⟨s.world.bodies[j].mu, s.world.bodies[j].radius, part (mvV mx my) s.world.bodies[j].track 0⟩, s.world.home⟩, s.stations, s.catalogs⟩ bs) := Lib.hid (by rw [part_body0 _ _ _ _ hjs]; exact HOj.out)
        have HP1 := Lib.hid (part_body mx my s.world.bodies j hjs)
        have Hjp := Lib.hid hjp
        clear HOj hjp
        obtain ⟨b, hbd⟩ : ∃ b, b = s.world.bodies[j] := ⟨_, rfl⟩
        rw [← hbd] at hcell hgb HP0 HP1
        clear hbd
        obtain ⟨nt, hnt⟩ : ∃ q, q = b.track.length := ⟨_, rfl⟩
        rw [← hnt] at hcell HP1
        have hnt4 : nt ≤ 4 := by have := hgb.2.2.1; omega
        have Hnt := Lib.hid hnt
        have Htr := Lib.hid hgb.2.2.2
        have Hbk := Lib.hid hbk
        have hlg : g < wo.heap.size := World.block_lt_of_cell? wo _ hcell
        clear hnt hgb hbk
        go_wp2_with fail
        go_loopw [21] (fun qi wr => ∃ q : Nat, q ≤ nt ∧ qi = .int .i64 q ∧ Hid (Blk wr bt 28 #[.slice (some ⟨g, 0, none⟩) nb d1, .int .i64 home, .slice B2 s.stations.length d2, .slice B3 s.catalogs.length d3]) ∧ Hid (Blk wr bx 32 #[.int .i64 kind, .int .i64 st, .int .i64 cat, .int .i64 tick, .int .i64 dx, .int .i64 dy, .int .i64 er, .int .i64 lo, .int .i64 hi]) ∧ Hid (OwnSky W2.heap.size wr (.slice (some ⟨g, 0, none⟩) nb d1) (.slice B2 s.stations.length d2) (.slice B3 s.catalogs.length d3) ⟨⟨(part (mvB mx my) s.world.bodies j).set j ⟨b.mu, b.radius, part (mvV mx my) b.track q⟩, s.world.home⟩, s.stations, s.catalogs⟩ bs) ∧ Ext W2 wr) (fun qi _ => nt - (intOf qi).toNat)
        case atStart => exact ⟨0, Nat.zero_le _, rfl, HT, HX, HP0, hb⟩
        case round =>
          obtain ⟨q, hq, rfl, HT2, HX2, HOq, hb2⟩ := hrel
          by_cases hql : q < nt
          · have hqt : q < b.track.length := by have := Hnt.out; omega
            obtain ⟨⟨hbk1, hbk2⟩, hfk, ⟨hcx, hcy⟩, hfar⟩ := own_place2 HOq.out Hjp.out Hbk.out hqt
            have hxy := Htr.out _ (List.getElem_mem hqt)
            have Hstep := Lib.hid fun W (hW : Ext wr W) => (part_step (mvV mx my) b.track q hqt) ▸ own_step (HOq.out.ext hW) Hjp.out Hbk.out q (mvV mx my b.track[q])
            have Hfar := Lib.hid hfar
            obtain ⟨p, hp⟩ : ∃ p, p = b.track[q] := ⟨_, rfl⟩
            rw [← hp] at hcx hcy hxy Hstep
            clear hp hfar
            obtain ⟨px, py⟩ := p
            unfold mvV at Hstep
            dsimp only at hcx hcy hxy Hstep
            obtain ⟨⟨hx1, hx2⟩, hy1, hy2⟩ := hxy
            obtain ⟨hmx2, hmx3⟩ := hmx1
            obtain ⟨hmy2, hmy3⟩ := hmy1
            go_wp2_with fail
            refine wp_region_last1 18 (Ext wr) (Stable.ext _) (Ext.drew (Ext.refl _)) (by kernel_rfl) (by kernel_rfl) ?_
            simp only [List.take_succ_cons, List.take_zero, pick1, List.drop_succ_cons, List.drop_zero]
            repeat' (first | (refine bl_off (by rfl) ?_; simp only [Act.put, List.setIfInBounds_toArray, List.set_cons_zero, List.set_cons_succ]) | (apply bl_op; rfl; (intro w1 h1; obtain ⟨hc, hf, hz⟩ := bcell h1; go_simp; (try go_bits); (first | exact ⟨rfl, Ext.refl _⟩)); simp only [Act.put, List.setIfInBounds_toArray, List.set_cons_zero, List.set_cons_succ]) | (refine bl_split rfl rfl (fun hx => ?_) (fun hx => ?_) <;> simp only [hx]))
            refine bl_nil ?_
            intro w7 h7
            refine ⟨trivial, ?_⟩
            have hfk7 : ∀ i, w7.frozen? ⟨bk, i, none⟩ = false := fun i => (h7.frozen (p := ⟨bk, i, none⟩) hbk2).trans (hfk i)
            have hcx7 := h7.cell hcx
            have hcy7 := h7.cell hcy
            have hlk7 : bk < w7.heap.size := Nat.lt_of_lt_of_le hbk2 h7.size
            refine runs_skip (w1 := (w7.setCell ⟨bk, q * 2, none⟩ (.int .i64 (px + mx))).setCell ⟨bk, q * 2 + 1, none⟩ (.int .i64 (py + my))) (by go_simp) ?_
            have HO7 := Lib.hid (Hstep.out w7 h7)
            have HT7 := Lib.hid (((HT2.out.ext h7).far (p := ⟨bk, q * 2, none⟩) (Hfar.out _ _ _ HT2.out (by decide)) (.int .i64 (px + mx))).far (p := ⟨bk, q * 2 + 1, none⟩) (Hfar.out _ _ _ HT2.out (by decide)) (.int .i64 (py + my)))
            have HX7 := Lib.hid (((HX2.out.ext h7).far (p := ⟨bk, q * 2, none⟩) (Hfar.out _ _ _ HX2.out (by decide)) (.int .i64 (px + mx))).far (p := ⟨bk, q * 2 + 1, none⟩) (Hfar.out _ _ _ HX2.out (by decide)) (.int .i64 (py + my)))
            have hE7 := Ext.set (Ext.set (hb2.trans h7) (p := ⟨bk, q * 2, none⟩) hbk1 (.int .i64 (px + mx))) (p := ⟨bk, q * 2 + 1, none⟩) hbk1 (.int .i64 (py + my))
            clear hfk7 hcx7 hcy7 hlk7 Hstep Hfar
            generalize World.setCell _ _ _ = w8 at *
            go_wp2_with fail
            go_roundw
            case rel => exact ⟨q + 1, by omega, by go_num, HT7, HX7, HO7, hE7⟩
            case measure => simp [intOf]; omega
          · have hqn : q = nt := by omega
            have HO8 := Lib.hid HOq.out
            rw [hqn, HP1.out] at HO8
            clear HOq hqn
            go_wp2_with fail
            go_roundw
            case rel => exact ⟨j + 1, by omega, by go_num, HT2, HX2, HO8, hb2⟩
            case measure => simp [intOf]; omega
      · have hjn : j = nb := by omega
        have HO3 : Hid (OwnSky W2.heap.size wo (.slice B1 nb d1) (.slice B2 s.stations.length d2) (.slice B3 s.catalogs.length d3) (mvS mx my s) bs) := Lib.hid (by
          have h := HOj.out
          rw [hjn, Hnb.out, part_all] at h
          rw [Hnb.out]
          exact h)
        have hhm : Hid (home = s.world.home) := Lib.hid HS2.out.home
        have HXo := Lib.hid (hX2'.ext hb)
        have HQo := Lib.hid (hB_b16.ext hb)
        have hlX2 := HX.out.lt
        have hcX2 := HX.out.cell
        have hfX2 := HX.out.frozen
        have hlX1 := HXo.out.lt
        have hcX1 := HXo.out.cell
        have hlQ := HQo.out.lt
        have hcQ := HQo.out.cell
        have hd := hx.dir
        obtain ⟨⟨hd1, hd2⟩, ⟨hd3, hd4⟩, hd5⟩ := hd
        dsimp only at hd1 hd2 hd3 hd4 hd5
        clear HOj HO HBt HBx h6
        obtain ⟨bg, ⟨⟨hg1, hg2⟩, ⟨hg3, hg4⟩, hg5⟩, hgu, hmax⟩ := run_max5 (P := Try.prog) #[2, 2, 2, 2, 2] 2 dx (-dx) dy (-dy) 1
        have hg6 : bg ≤ 4096 := hgu _ (by omega) (by omega) (by omega) (by omega) (by omega)
        clear hgu
        go_wp2_with fail
        have hk1 : 1 ≤ 4096 / bg := Int.le_ediv_of_mul_le (by omega) (by omega)
        have hk2 : 4096 / bg ≤ 4096 := Int.ediv_le_self _ (by omega)
        have hk3 : 4096 / bg * bg ≤ 4096 := Int.ediv_mul_le _ (by omega)
        clear hmax
        generalize 4096 / bg = kq at *
        refine (Mod64_c _ _ _ hk1 (by omega)).mono ?_
        rintro e _ ⟨rfl, rfl⟩
        have hr1 : 0 ≤ af % kq := Int.emod_nonneg _ (by omega)
        have hr2 : af % kq < kq := Int.emod_lt_of_pos _ (by omega)
        generalize af % kq = r at *
        have hf1 : (1 + r) * bg ≤ 4096 := Int.le_trans (Int.mul_le_mul_of_nonneg_right (by omega) (by omega)) hk3
        obtain ⟨hu1, hu2⟩ := mul_in hg1 hg2 (by omega) hf1
        obtain ⟨hu3, hu4⟩ := mul_in hg3 hg4 (by omega) hf1
        obtain ⟨hmx2, hmx3⟩ := hmx1
        obtain ⟨hmy2, hmy3⟩ := hmy1
        have hr3 : r ≤ 4096 := by omega
        clear hg1 hg2 hg3 hg4 hg5 hg6 hk1 hk2 hk3 hf1
        go_wp2_with fail
        have HXz : Blk (((wo.setCell ⟨bx, 4, none⟩ (.int .i64 (dx * (1 + r)))).setCell ⟨bx, 5, none⟩ (.int .i64 (dy * (1 + r)))).alloc (.cells #[.int .i64 (cx + mx), .int .i64 (cy + my)] 30)) bx 32 #[.int .i64 kind, .int .i64 st, .int .i64 cat, .int .i64 tick, .int .i64 (dx * (1 + r)), .int .i64 (dy * (1 + r)), .int .i64 er, .int .i64 lo, .int .i64 hi] := ((HX.out.set_ 4 (.int .i64 (dx * (1 + r)))).set_ 5 (.int .i64 (dy * (1 + r)))).alloc _
        have hne : bt ≠ bx := blk_ne2 HT.out HX.out (by decide)
        have HTz := ((HT.out.far (p := ⟨bx, 4, none⟩) hne (.int .i64 (dx * (1 + r)))).far (p := ⟨bx, 5, none⟩) hne (.int .i64 (dy * (1 + r)))).alloc (.cells #[.int .i64 (cx + mx), .int .i64 (cy + my)] 30)
        have HZz : Blk (((wo.setCell ⟨bx, 4, none⟩ (.int .i64 (dx * (1 + r)))).setCell ⟨bx, 5, none⟩ (.int .i64 (dy * (1 + r)))).alloc (.cells #[.int .i64 (cx + mx), .int .i64 (cy + my)] 30)) wo.heap.size 30 #[.int .i64 (cx + mx), .int .i64 (cy + my)] := Blk.newAt (by simp)
        have HEz := (Ext.set (Ext.set hb (p := ⟨bx, 4, none⟩) hbx (.int .i64 (dx * (1 + r)))) (p := ⟨bx, 5, none⟩) hbx (.int .i64 (dy * (1 + r)))).alloc (.cells #[.int .i64 (cx + mx), .int .i64 (cy + my)] 30)
        have HOz := (OwnSky.setL (b := bx) (by decide) (by decide) (by decide) (by decide) [.int .i64 (dx * (1 + r)), .int .i64 (dy * (1 + r))] 4 HX.out HO3.out).ext (Ext.alloc0 _ (.cells #[.int .i64 (cx + mx), .int .i64 (cy + my)] 30))
        simp only [wrL, Nat.reduceAdd] at HOz
        clear hlX1 hcX1 hlQ hcQ hlX2 hcX2 hfX2 HXo HQo HO3 HX HT hb hcT hlT
        generalize World.alloc _ _ = wz at *
        obtain ⟨A1', c1', A2', c2', A3', c3', e1, e2, e3, hsm⟩ := HOz.sky
        injection e1 with ea eb ec
        subst ea ec
        injection e2 with ea ed ec
        subst ea ec
        injection e3 with ea ed ec
        subst ea ec
        rw [← eb] at hsm
        clear eb ed HOz
        have hsz := HS2.out.ext HEz
        have hSz := hA2'.ext HEz
        have hXz := hX2'.ext HEz
        have hQz := hB_b16.ext HEz
        have hEz := hE2.trans HEz
        clear hA2' hX2' hB_b16 hE2 HS2 HEz
        obtain ⟨LA, LE⟩ := moved_law s hm ⟨kind, st, cat, tick, dx, dy, er, lo, hi⟩ hx mx my (1 + r) ⟨hmx2, hmx3⟩ ⟨hmy2, hmy3⟩ (by omega) ⟨hu1, hu2⟩ ⟨hu3, hu4⟩ cx cy ⟨⟨by omega, by omega⟩, by omega, by omega⟩ (cx - 30) (cx + 30) (cy - 20) (cy + 20) ⟨⟨by omega, by omega, by omega⟩, by omega, by omega, by omega⟩
        rw [show cx - 30 + mx = cx + mx - 30 by omega, show cx + 30 + mx = cx + mx + 30 by omega, show cy - 20 + my = cy + my - 20 by omega, show cy + 20 + my = cy + my + 20 by omega] at LE
        unfold mvX at LA LE
        dsimp only at LA LE
        have HA := Lib.hid fun W (hW : Ext wz W) (v1 v2 v3 : Value) (h : (v1 = .agg #[.slice A1 n1 c1, .int .i64 home, .slice A2 n2 c2, .slice A3 n3 c3] ∧ v2 = .agg #[.int .i64 kind, .int .i64 st, .int .i64 cat, .int .i64 tick, .int .i64 dx, .int .i64 dy, .int .i64 er, .int .i64 lo, .int .i64 hi] ∧ v3 = .agg #[.int .i64 cx, .int .i64 cy]) ∨
            (v1 = .agg #[.slice B1 nb d1, .int .i64 home, .slice B2 s.stations.length d2, .slice B3 s.catalogs.length d3] ∧ v2 = .agg #[.int .i64 kind, .int .i64 st, .int .i64 cat, .int .i64 tick, .int .i64 (dx * (1 + r)), .int .i64 (dy * (1 + r)), .int .i64 er, .int .i64 lo, .int .i64 hi] ∧ v3 = .agg #[.int .i64 (cx + mx), .int .i64 (cy + my)])) =>
          (show Calls Try.prog 21 #[v1, v2, v3] W fun e w' => e = .returned (.bool (agreesAll s ⟨kind, st, cat, tick, dx, dy, er, lo, hi⟩ cx cy)) ∧ Ext W w' by
            rcases h with ⟨rfl, rfl, rfl⟩ | ⟨rfl, rfl, rfl⟩
            · exact Agrees_c A1 n1 c1 home A2 n2 c2 A3 n3 c3 s kind st cat tick dx dy er lo hi cx cy W (hsz.ext hW)
            · rw [← LA, hhm.out]
              exact Agrees_c B1 nb d1 s.world.home B2 _ d2 B3 _ d3 (mvS mx my s) kind st cat tick (dx * (1 + r)) (dy * (1 + r)) er lo hi (cx + mx) (cy + my) W (hsm.ext hW))
        have HE := Lib.hid fun W (hW : Ext wz W) (v1 v2 v3 : Value) (h : (v1 = .agg #[.slice A1 n1 c1, .int .i64 home, .slice A2 n2 c2, .slice A3 n3 c3] ∧ v2 = .agg #[.int .i64 kind, .int .i64 st, .int .i64 cat, .int .i64 tick, .int .i64 dx, .int .i64 dy, .int .i64 er, .int .i64 lo, .int .i64 hi] ∧ v3 = .agg #[.int .i64 (cx - 30), .int .i64 (cx + 30), .int .i64 (cy - 20), .int .i64 (cy + 20)]) ∨
            (v1 = .agg #[.slice B1 nb d1, .int .i64 home, .slice B2 s.stations.length d2, .slice B3 s.catalogs.length d3] ∧ v2 = .agg #[.int .i64 kind, .int .i64 st, .int .i64 cat, .int .i64 tick, .int .i64 (dx * (1 + r)), .int .i64 (dy * (1 + r)), .int .i64 er, .int .i64 lo, .int .i64 hi] ∧ v3 = .agg #[.int .i64 (cx + mx - 30), .int .i64 (cx + mx + 30), .int .i64 (cy + my - 20), .int .i64 (cy + my + 20)])) =>
          (show Calls Try.prog 40 #[v1, v2, v3] W fun e w' => e = .returned (.bool (exclAll s ⟨kind, st, cat, tick, dx, dy, er, lo, hi⟩ (cx - 30) (cx + 30) (cy - 20) (cy + 20))) ∧ Ext W w' by
            rcases h with ⟨rfl, rfl, rfl⟩ | ⟨rfl, rfl, rfl⟩
            · exact Excludes_c A1 n1 c1 home A2 n2 c2 A3 n3 c3 s kind st cat tick dx dy er lo hi _ _ _ _ W (hsz.ext hW)
            · rw [← LE, hhm.out]
              exact Excludes_c B1 nb d1 s.world.home B2 _ d2 B3 _ d3 (mvS mx my s) kind st cat tick (dx * (1 + r)) (dy * (1 + r)) er lo hi _ _ _ _ W (hsm.ext hW))
        generalize agreesAll _ _ _ _ = ga at HA
        generalize exclAll _ _ _ _ _ _ = ge at HE
        clear LA LE hu1 hu2 hu3 hu4 hr1 hr2 hr3 hsz hsm hd1 hd2 hd3 hd4 hd5 hhm
        generalize dx * (1 + r) = dx' at *
        generalize dy * (1 + r) = dy' at *
        have hl1 := hSz.lt
        have hl2 := hXz.lt
        have hl3 := hQz.lt
        have hl4 := HTz.lt
        have hl5 := HXz.lt
        have hl6 := HZz.lt
        have hc1 := hSz.cell
        have hc2 := hXz.cell
        have hc3 := hQz.cell
        have hc4 := HTz.cell
        have hc5 := HXz.cell
        have hc6 := HZz.cell
        clear hSz hXz hQz HTz HXz HZz
        refine wp_region_text (by kernel_rfl) (by kernel_rfl) ?_
        repeat' (first | (refine bl_off (by rfl) ?_; simp only [Act.put, List.setIfInBounds_toArray, List.set_cons_zero, List.set_cons_succ]) | (apply bl_op; rfl; (intro w1 h1; obtain ⟨hc, hf, hz⟩ := bcell h1; go_simp; (try go_bits); (first | exact ⟨rfl, Ext.refl _⟩ | (apply gives_call; first | (go_at_call 21; exact HA.out _ h1 _ _ _ (by first | exact .inl ⟨rfl, rfl, rfl⟩ | exact .inr ⟨rfl, rfl, rfl⟩)) | (go_at_call 40; exact HE.out _ h1 _ _ _ (by first | exact .inl ⟨rfl, rfl, rfl⟩ | exact .inr ⟨rfl, rfl, rfl⟩)) | (go_at_call 42; exact around_c _ _ _ _ _ (by omega) (by omega) (by omega) (by omega)) | (go_at_call 18; exact awake_c _)) | (go_invoke; go_simp; apply gives_call; first | (go_at_call 21; exact HA.out _ h1 _ _ _ (by first | exact .inl ⟨rfl, rfl, rfl⟩ | exact .inr ⟨rfl, rfl, rfl⟩)) | (go_at_call 40; exact HE.out _ h1 _ _ _ (by first | exact .inl ⟨rfl, rfl, rfl⟩ | exact .inr ⟨rfl, rfl, rfl⟩)) | (go_at_call 42; exact around_c _ _ _ _ _ (by omega) (by omega) (by omega) (by omega)) | (go_at_call 18; exact awake_c _)))); simp only [Act.put, List.setIfInBounds_toArray, List.set_cons_zero, List.set_cons_succ]) | (refine bl_split rfl rfl (fun hx => ?_) (fun hx => ?_) <;> simp only [hx]))
        refine bl_nil ?_
        intro w9 h9
        go_wp2_with fail
        (try simp only [Exit.inBlock, Exit.then]); apply bodyPost_ret; (focus (simp only [results, Try.results9]; go_simp; try rfl)); rfl
        exact ⟨rfl, hEz.trans h9⟩
end Go.Proofs.Ytmgjjgmadiabfaa

namespace Go.Proofs.Ytmgjjgmadiabfaa
open Go.RowKit Go.ChangeShapes Go.WideShapes Go.ChangeAt

set_option maxRecDepth 100000 in
set_option maxHeartbeats 1000000 in
theorem moved_lifted (os : Os) (started : os.Started) (H : Type) (enc : TypeId × Value → H) :
    ReturnsInHanded {} Try.checked os 9 .any (Rows.skyMovedSpec.pre6 enc Try.prog Try.f9 Rows.skyMovedRow.domain false) (Rows.skyMovedSpec.post enc Try.prog Try.f9 false true false false) := by
  refine returnsInHanded_of_change (C := Try.checked) own started (by kernel_rfl) Try.func9
    (ChangeSpec.witness6 (enc := enc) (C := Try.checked) false ⟨#[], #[.slice none 0 0, .int .i64 0, .int .i64 0, .int .i64 0, .int .i64 0, .int .i64 0], []⟩ 8 (by kernel_rfl) (by kernel_rfl) (by kernel_rfl) (by kernel_rfl)) ?_
  intro W base args ds gs before hval0 hW _ _
  have hval : ∀ (j : Nat) t v, Try.f9.params[j]? = some t → args[j]? = some v → Value.okWide Try.prog W .any base t v := hval0
  have hW' := hW
  obtain ⟨p, q, hA0, hV, rfl, hfz, hnd⟩ := hW
  have hA : DataW.TrodAll enc Try.prog W 0 (fun _ => true) true Try.f9.params.toList args.toList ds p := hA0
  rw [Try.params9] at hA hval
  obtain ⟨v0, vs0, d0, ds0, p0, q0, hargs, rfl, rfl, h0, r0⟩ := trodAll_cons hA
  obtain ⟨v1, vs1, d1, ds1, p1, q1, rfl, rfl, rfl, h1, r1⟩ := trodAll_cons r0
  obtain ⟨v2, vs2, d2, ds2, p2, q2, rfl, rfl, rfl, h2, r2⟩ := trodAll_cons r1
  obtain ⟨v3, vs3, d3, ds3, p3, q3, rfl, rfl, rfl, h3, r3⟩ := trodAll_cons r2
  obtain ⟨v4, vs4, d4, ds4, p4, q4, rfl, rfl, rfl, h4, r4⟩ := trodAll_cons r3
  obtain ⟨v5, vs5, d5, ds5, p5, q5, rfl, rfl, rfl, h5, r5⟩ := trodAll_cons r4
  obtain ⟨rfl, rfl, rfl⟩ := trodAll_nil r5
  obtain ⟨rfl, rfl⟩ := trodVars_none hV
  obtain rfl : args = #[v0, v1, v2, v3, v4, v5] := by cases args; simp_all
  obtain ⟨A0, len0, cap0, rfl⟩ := okWide_slice Try.underlying38 (hval 0 _ v0 rfl rfl)
  obtain ⟨fuel0, h0⟩ := h0
  obtain ⟨A_0, n_0, c_0, l_0, e0, hl0⟩ := open_ints h0
  injection e0 with e0 _; injection e0 with e0a e0b e0c; subst e0a e0b e0c
  obtain ⟨m1, rfl⟩ := okWide_int Try.underlying2 (hval 1 _ v1 rfl rfl)
  obtain ⟨m2, rfl⟩ := okWide_int Try.underlying2 (hval 2 _ v2 rfl rfl)
  obtain ⟨m3, rfl⟩ := okWide_int Try.underlying2 (hval 3 _ v3 rfl rfl)
  obtain ⟨m4, rfl⟩ := okWide_int Try.underlying2 (hval 4 _ v4 rfl rfl)
  obtain ⟨m5, rfl⟩ := okWide_int Try.underlying2 (hval 5 _ v5 rfl rfl)
  refine (SkyMoved_c A0 len0 cap0 l_0 _ _ _ _ _ W hl0     ).mono fun e W' ⟨he, hb⟩ => ?_
  subst he
  exact ⟨_, rfl, law_post (by kernel_rfl) rfl rfl hW' rfl hb⟩

theorem moved_holds : Rows.SkyMovedSaid :=
  OpenClaim.holds_of_wide 9 Try.f9 rfl rfl rfl rfl rfl rfl rfl ⟨rfl, rfl, rfl, rfl, rfl⟩ rfl rfl rfl rfl rfl (by kernel_rfl) Try.func9 (by kernel_rfl)
    (of_decide_eq_true (by kernel_rfl)) (by unfold Func.isWrapper; first | (rw [if_pos (by decide +kernel)]; kernel_rfl) | (rw [if_neg (by decide +kernel)]; exact ⟨rfl, rfl⟩))
    (fun os started H enc _ => moved_lifted os started H enc)

end Go.Proofs.Ytmgjjgmadiabfaa
