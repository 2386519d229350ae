/- Copies of worlds and skies. No condition. -/
import Derived.Test.YtmgjjgmadiabfaaOwn
namespace Go.Proofs.Ytmgjjgmadiabfaa
open Go.RowKit

/-- Bodies that the call itself has laid, each with a track of its own. -/
def OwnBodies (base : Nat) (w : World) (v : Value) (l : List Body) (bs : List Nat) : Prop :=
  ∃ raw : List (List Value), raw.length = l.length ∧ (∀ r ∈ raw, r.length = 3) ∧ w.ownsRow base 67 3 v l.length raw.flatten ∧ bs.length = l.length ∧
    (∀ k (h : k < l.length), ∃ bk cap, bs[k]? = some bk ∧ raw[k]? = some [.int .i64 l[k].mu, .int .i64 l[k].radius, .slice (some ⟨bk, 0, none⟩) l[k].track.length cap] ∧
      w.ownsRow base 30 2 (.slice (some ⟨bk, 0, none⟩) l[k].track.length cap) l[k].track.length (l[k].track.flatMap vecC)) ∧ bs.Pairwise (· < ·)
theorem OwnBodies.nil (base : Nat) (w : World) : OwnBodies base w (.slice none 0 0) [] [] :=
  ⟨[], rfl, (by intro r h; cases h), World.ownsRow_nil _ _ _ _, rfl, (by intro k h; cases h), List.Pairwise.nil⟩
theorem OwnBodies.ext {base : Nat} {w w' : World} {v : Value} {l : List Body} {bs : List Nat} (h : OwnBodies base w v l bs) (e : Ext w w') : OwnBodies base w' v l bs := by
  obtain ⟨raw, h1, h2, h3, h4, h5, h6⟩ := h
  refine ⟨raw, h1, h2, own_ext_keep h3 e, h4, fun k hk => ?_, h6⟩
  obtain ⟨bk, cap, g1, g2, g3⟩ := h5 k hk
  exact ⟨bk, cap, g1, g2, own_ext_keep g3 e⟩
theorem OwnBodies.lt {base : Nat} {w : World} {v : Value} {l : List Body} {bs : List Nat} (h : OwnBodies base w v l bs) : ∀ b ∈ bs, b < w.heap.size := by
  obtain ⟨raw, h1, h2, h3, h4, h5, h6⟩ := h
  intro b hb
  obtain ⟨k, hk, rfl⟩ := List.mem_iff_getElem.1 hb
  obtain ⟨bk, cap, g1, g2, g3⟩ := h5 k (by omega)
  have := (g3.lt bk rfl).2
  rw [List.getElem?_eq_getElem hk] at g1
  injection g1 with g1
  omega
theorem OwnBodies.mono {base base' : Nat} {w : World} {v : Value} {l : List Body} {bs : List Nat} (h : OwnBodies base w v l bs) (hb : base' ≤ base) : OwnBodies base' w v l bs := by
  obtain ⟨raw, h1, h2, h3, h4, h5, h6⟩ := h
  refine ⟨raw, h1, h2, own_mono h3 hb, h4, fun k hk => ?_, h6⟩
  obtain ⟨bk, cap, g1, g2, g3⟩ := h5 k hk
  exact ⟨bk, cap, g1, g2, own_mono g3 hb⟩
theorem own_block_ge {w : World} {base : Nat} {e : TypeId} {sz : Nat} {v : Value} {n : Nat} {xs : List Value} (h : w.ownsRow base e sz v n xs) {b : Nat} (hb : b < base) : v.ownBlock ≠ some b := fun hx => by
  have := (h.lt b hx).1; omega
theorem OwnBodies.set {base : Nat} {w : World} {v : Value} {l : List Body} {bs : List Nat} (h : OwnBodies base w v l bs) {p : Addr} (hp : p.block < base) (u : Value) : OwnBodies base (w.setCell p u) v l bs := by
  obtain ⟨raw, h1, h2, h3, h4, h5, h6⟩ := h
  refine ⟨raw, h1, h2, own_set h3 (own_block_ge h3 hp) u, h4, fun k hk => ?_, h6⟩
  obtain ⟨bk, cap, g1, g2, g3⟩ := h5 k hk
  exact ⟨bk, cap, g1, g2, own_set g3 (own_block_ge g3 hp) u⟩
/-- One body more. -/
theorem OwnBodies.snoc {base : Nat} {w w' : World} {v v' : Value} {l : List Body} {bs : List Nat} {raw : List (List Value)} (h1 : raw.length = l.length) (h2 : ∀ r ∈ raw, r.length = 3) (h3 : w.ownsRow base 67 3 v l.length raw.flatten)
    (h4 : bs.length = l.length) (h5 : ∀ k (h : k < l.length), ∃ bk cap, bs[k]? = some bk ∧ raw[k]? = some [.int .i64 l[k].mu, .int .i64 l[k].radius, .slice (some ⟨bk, 0, none⟩) l[k].track.length cap] ∧
      w.ownsRow base 30 2 (.slice (some ⟨bk, 0, none⟩) l[k].track.length cap) l[k].track.length (l[k].track.flatMap vecC)) (h6 : bs.Pairwise (· < ·))
    (x : Body) (bk cap : Nat) (hx : w.ownsRow base 30 2 (.slice (some ⟨bk, 0, none⟩) x.track.length cap) x.track.length (x.track.flatMap vecC)) (hlt : ∀ b ∈ bs, b < bk)
    (hg : w.grownBy w' v.ownBlock) (hv : w'.ownsRow base 67 3 v' (l.length + 1) (raw.flatten ++ [.int .i64 x.mu, .int .i64 x.radius, .slice (some ⟨bk, 0, none⟩) x.track.length cap])) :
    OwnBodies base w' v' (l ++ [x]) (bs ++ [bk]) := by
  refine ⟨raw ++ [[.int .i64 x.mu, .int .i64 x.radius, .slice (some ⟨bk, 0, none⟩) x.track.length cap]], by simp [h1], ?_, by simpa using hv, by simp [h4], fun k hk => ?_, ?_⟩
  · intro r hr
    rcases List.mem_append.1 hr with hr | hr
    · exact h2 r hr
    · simp at hr; subst hr; rfl
  · by_cases hk' : k < l.length
    · obtain ⟨b, c, g1, g2, g3⟩ := h5 k hk'
      have e1 : (l ++ [x])[k] = l[k] := by rw [List.getElem_append_left hk']
      rw [e1]
      refine ⟨b, c, ?_, ?_, g3.kept hg (own_ne g3 h3 (by decide))⟩
      · rw [List.getElem?_append_left (by omega)]; exact g1
      · rw [List.getElem?_append_left (by omega)]; exact g2
    · have hk2 : k = l.length := by simp at hk; omega
      subst hk2
      have e1 : (l ++ [x])[l.length] = x := by simp
      rw [e1]
      refine ⟨bk, cap, ?_, ?_, hx.kept hg (own_ne hx h3 (by decide))⟩
      · rw [List.getElem?_append_right (by omega), h4]; simp
      · rw [List.getElem?_append_right (by omega), h1]; simp
  · rw [List.pairwise_append]
    exact ⟨h6, by simp, fun a ha b hb => by simp at hb; subst hb; exact hlt a ha⟩

set_option maxRecDepth 4000 in
set_option maxHeartbeats 1000000 in
theorem OwnWorld_c (A : Option Addr) (n c : Nat) (home : Int) (l : List Body) (w : World) (hl : Bodies w A n l) (hbig : bigWld l = false) :
    Calls Try.prog 71 #[.agg #[.slice A n c, .int .i64 home]] w fun e w' => ∃ v bs, e = .returned (.agg #[v, .int .i64 home]) ∧ OwnBodies w.heap.size w' v l bs ∧ Ext w w' := by
  have hn := hl.le
  have hln := Lib.hid hl.len
  obtain ⟨iv, hiv, hv0, hv1, hv2⟩ := info_parts info_vec
  obtain ⟨ib, hib, hb0, hb1, hb2⟩ := info_parts info_body
  have hn10 : n ≤ 10 := by
    have h := hl.len
    unfold bigWld at hbig
    simp only [Bool.or_eq_false_iff, decide_eq_false_iff_not] at hbig
    omega
  go_enter Try.func71, Try.ntmps71
  go_wp2_with fail
  go_loopw [3, 4] (fun v i wr => ∃ (k : Nat) (bs : List Nat), k ≤ n ∧ i = .int .i64 k ∧ Hid (OwnBodies (w.heap.size + 1 + 1) wr v (l.take k) bs) ∧ Ext ((w.alloc (.cells #[.slice A n c, .int .i64 home] 24)).alloc (.cells #[.slice none 0 0, .int .i64 0] 24)) wr) (fun _ i _ => n - (intOf i).toNat)
  case atStart => exact ⟨0, [], Nat.zero_le _, rfl, OwnBodies.nil _ _, Ext.refl _⟩
  case round =>
    obtain ⟨k, bs, hk, rfl, HO, hb⟩ := hrel
    obtain ⟨hcb, hfb, hzb⟩ := bcell hb
    simp only [World.size_alloc] at hzb
    by_cases hlt : k < n
    · obtain ⟨b, off, x, rfl, HD, hxm, hx⟩ := hl.one hlt
      obtain ⟨hx0, hx1, A', n', c', hx2, hx3⟩ := bodyAt.ext (Ext.trans (by (repeat' (first | exact Ext.refl _ | assumption | apply Ext.alloc | apply Ext.drew | refine Ext.set ?_ (by dsimp only; omega) _ | refine Ext.trans ?_ (by assumption)))) hb) hx
      have hwr0 : w.heap.size < wr.heap.size := by omega
      have hwr1 : w.heap.size + 1 < wr.heap.size := by omega
      have hbx : bigB x = false := by
        unfold bigWld at hbig
        simp only [Bool.or_eq_false_iff, List.any_eq_false] at hbig
        simpa using hbig.2 x hxm
      have hn' : n' ≤ 4097 := by
        have := hx3.len
        unfold bigB at hbx
        simp only [Bool.or_eq_false_iff, decide_eq_false_iff_not] at hbx
        omega
      have Hx3 := Lib.hid hx3
      have Hlen : Hid (n' = x.track.length) := Lib.hid hx3.len
      clear hx3 hx hbx hbig
      go_wp2_with (at_builtin; go_loud (refine wpList_append_sl rfl (.tmp 18) (.tmp 20) 65 rfl (wr.heap.size + 1) 30 iv _ 2 16 Try.underlying65 hiv hv0 hv1 hv2 rfl (by decide) _ 0 [] rfl (own_made (by simp) (by omega)) A' n' c' (x.track.flatMap vecC) rfl (by rw [flat_len vec_len, ← Hlen.out]) (sl_news vec_len (vec_news _) (Vecs.ext (by (repeat' (first | exact Ext.refl _ | assumption | apply Ext.alloc | apply Ext.drew | refine Ext.set ?_ (by dsimp only; omega) _ | refine Ext.trans ?_ (by assumption)))) Hx3.out)) (flat_one vec_one _) (by unfold maxLen; omega) (by omega) (by simp) ?_))
      intro v1 w1 ho1 hg1 hn1
      obtain ⟨bk, cap, rfl, hbk1, hbk2⟩ := own_some ho1 (fun h => by cases hn1 h)
      have e1 : Ext wr w1 := grown_ext (by (repeat' (first | exact Ext.refl _ | assumption | apply Ext.alloc | apply Ext.drew | refine Ext.set ?_ (by dsimp only; omega) _ | refine Ext.trans ?_ (by assumption)))) hg1 (by intro j hj; simp [Value.ownBlock] at hj; omega)
      have hB : Blk w1 wr.heap.size 67 #[.int .i64 x.mu, .int .i64 x.radius, .slice A' n' c'] := (Blk.alloc (Blk.newAt rfl) _).grown hg1 (by simp [Value.ownBlock])
      have hcB := hB.cell
      have hfB := hB.frozen
      have hltB := hB.lt
      obtain ⟨hc1, hf1, hz1⟩ := bcell e1
      obtain ⟨raw, g1, g2, g3, g4, g5, g6⟩ := HO.out
      have hkl : (List.take k l).length = k := by rw [List.length_take]; have := hln.out; omega
      have hlt2 := OwnBodies.lt HO.out
      have G := Lib.hid (And.intro g1 (And.intro g2 (And.intro g4 (And.intro g5 (And.intro g6 hlt2)))))
      have G3 := Lib.hid g3
      have Ho1 := Lib.hid ho1
      have Hkl := Lib.hid hkl
      clear g1 g2 g3 g4 g5 g6 hlt2 ho1 hkl hg1 hn1 hB
      go_wp2_with (at_builtin; go_loud (refine wpList_append_sl rfl (.tmp 23) (.tmp 25) 22 rfl (w.heap.size + 1 + 1) 67 ib _ 3 40 Try.underlying22 hib hb0 hb1 hb2 rfl (by decide) _ (List.take k l).length raw.flatten rfl (own_ext_keep G3.out (by (repeat' (first | exact Ext.refl _ | assumption | apply Ext.alloc | apply Ext.drew | refine Ext.set ?_ (by dsimp only; omega) _ | refine Ext.trans ?_ (by assumption))))) (some ⟨w1.heap.size, 0, none⟩) 1 1 [.int .i64 x.mu, .int .i64 x.radius, .slice (some ⟨bk, 0, none⟩) n' cap] rfl rfl (.inr ⟨_, rfl, new_cells (by simp)⟩) (by intro u hu; simp at hu; rcases hu with rfl | rfl | rfl <;> rfl) (by rw [Hkl.out]; unfold maxLen; omega) (by rw [Hkl.out]; omega) (by simp; omega) ?_))
      intro v2 w2 ho2 hg2 hn2
      rw [← List.length_take] at ho2
      have hlen := Hlen.out
      subst hlen
      have HO2 : Hid (OwnBodies (w.heap.size + 1 + 1) w2 v2 (List.take (k + 1) l) (bs ++ [bk])) := by
        obtain ⟨g1, g2, g4, g5, g6, g7⟩ := G.out
        rw [take_snoc HD.out]
        refine OwnBodies.snoc g1 g2 (own_ext_keep G3.out (by (repeat' (first | exact Ext.refl _ | assumption | apply Ext.alloc | apply Ext.drew | refine Ext.set ?_ (by dsimp only; omega) _ | refine Ext.trans ?_ (by assumption))))) g4 (fun j hj => ?_) g6 x bk cap (own_mono (own_ext_keep (own_set Ho1.out (by simp [Value.ownBlock]; omega) _) (Ext.alloc0 _ _)) (by omega)) (fun b hb => ?_) hg2 ho2
        · obtain ⟨b1, c1, q1, q2, q3⟩ := g5 j hj
          exact ⟨b1, c1, q1, q2, own_ext_keep q3 (by (repeat' (first | exact Ext.refl _ | assumption | apply Ext.alloc | apply Ext.drew | refine Ext.set ?_ (by dsimp only; omega) _ | refine Ext.trans ?_ (by assumption))))⟩
        · have := g7 b hb; omega
      have e2 : Ext ((w.alloc (.cells #[.slice (some ⟨b, off, none⟩) n c, .int .i64 home] 24)).alloc (.cells #[.slice none 0 0, .int .i64 0] 24)) w2 := grown_ext ((Ext.set (hb.trans e1) (by simp only [World.size_alloc]; omega) _).alloc _) hg2 (by intro j hj; have := (G3.out.lt j hj).1; simp only [World.size_alloc]; omega)
      clear ho2 hg2 hn2
      go_wp2_with fail
      go_roundw
      case rel => exact ⟨k + 1, bs ++ [bk], by omega, by go_num, HO2, e2⟩
      case measure => simp [intOf]; omega
    · have : k = n := by omega
      subst this
      have Hw : Hid (OwnBodies (w.heap.size + 1 + 1) wr u3 l bs) := by
        have h := HO.out
        rw [hln.out, List.take_length] at h
        exact h
      have hwr0 : w.heap.size < wr.heap.size := by omega
      have hwr1 : w.heap.size + 1 < wr.heap.size := by omega
      obtain ⟨Av, nv, cv, rfl⟩ : ∃ A n c, u3 = .slice A n c := by
        obtain ⟨_, _, _, h3, _⟩ := Hw.out
        rcases h3.2 with ⟨rfl, _⟩ | ⟨g, cap, cur, rfl, _⟩
        · exact ⟨_, _, _, rfl⟩
        · exact ⟨_, _, _, rfl⟩
      have hB1 : Blk wr w.heap.size 24 #[.slice A k c, .int .i64 home] := Blk.ext (Blk.alloc (Blk.newAt rfl) _) hb
      have hB2 : Blk wr (w.heap.size + 1) 24 #[.slice none 0 0, .int .i64 0] := Blk.ext (Blk.newAt (by simp)) hb
      have hcB1 := hB1.cell
      have hfB1 := hB1.frozen
      have hcB2 := hB2.cell
      have hfB2 := hB2.frozen
      clear HO hB1 hB2 hcb hfb
      go_wp2_with fail
      (try simp only [Exit.inBlock, Exit.then]); apply bodyPost_ret; (focus (simp only [results, Try.results71]; go_simp; try rfl)); rfl
      refine ⟨_, bs, rfl, ?_, by (repeat' (first | exact Ext.refl _ | assumption | apply Ext.alloc | apply Ext.drew | refine Ext.set ?_ (by dsimp only; omega) _ | refine Ext.trans ?_ (by assumption)))⟩
      refine OwnBodies.mono ?_ (Nat.le_add_right _ (1 + 1))
      repeat (first | exact Hw.out | refine OwnBodies.set ?_ (by dsimp only; omega) _)
end Go.Proofs.Ytmgjjgmadiabfaa
