/- Lists that the call itself makes: appends, and what they read as. No condition. Copies of worlds and skies. No condition. A sky's copy. No condition. Where bodies and stations are, of the program and of the reference; skies that are equal. No condition. Operations of a drawn region that are known by what holds of their values: appends, slices. No condition. A region that draws its order: effects in whatever order they allow, known by what holds of their values, then a tail. No condition. Lists of numbers that the call itself makes. No condition. -/
import Derived.Test.YtiladlangkjoiaaGreatOpen2
import Derived.Laws.OwnMore
import Derived.OwnWalk
import Derived.Test.YtiladlangkjoiaaGreatFreeWalk
namespace Go.Proofs.YtiladlangkjoiaaGreat
open Go.RowKit

theorem grown_ext {w0 w w' : World} {row : Option Nat} (e : Ext w0 w) (h : w.grownBy w' row) (hr : ∀ k, row = some k → w0.heap.size ≤ k) : Ext w0 w' := by
  refine ⟨h.os.trans e.os, h.tape.trans e.tape, h.output.trans e.output, Nat.le_trans e.size h.size, fun k hk => ?_⟩
  refine (h.block k (Nat.lt_of_lt_of_le hk e.size) (fun hx => ?_)).trans (e.block k hk)
  have := hr k hx.symm; omega
theorem own_ext {w0 w w' : World} {base : Nat} {e : TypeId} {sz : Nat} {v : Value} {n : Nat} {xs : List Value} (e0 : Ext w0 w) (ho : w.ownsRow base e sz v n xs) (h : w.grownBy w' v.ownBlock) (hb : w0.heap.size ≤ base) : Ext w0 w' :=
  grown_ext e0 h fun k hk => Nat.le_trans hb (ho.lt k hk).1
theorem Blk.grown {w w' : World} {g : Nat} {t : TypeId} {cs : Array Value} {row : Option Nat} (h : Blk w g t cs) (hg : w.grownBy w' row) (hn : row ≠ some g) : Blk w' g t cs := (hg.block g h.lt (fun e => hn e.symm)).trans h
theorem own_blk {w : World} {base : Nat} {e t : TypeId} {sz : Nat} {v : Value} {n : Nat} {xs : List Value} {g : Nat} {cs : Array Value} (h : w.ownsRow base e sz v n xs) (hb : Blk w g t cs) (hne : e ≠ t) : v.ownBlock ≠ some g := by
  intro hx
  rcases h.2 with ⟨rfl, _⟩ | ⟨g', cap, cur, rfl, _, hg, _⟩
  · simp [Value.ownBlock] at hx
  · simp only [Value.ownBlock, Option.some.injEq] at hx
    subst hx
    unfold Blk at hb
    rw [hg] at hb
    simp at hb
    exact hne hb.2
theorem own_ext_keep {w w' : World} {base : Nat} {e : TypeId} {sz : Nat} {v : Value} {n : Nat} {xs : List Value} (h : w.ownsRow base e sz v n xs) (hb : Ext w w') : w'.ownsRow base e sz v n xs := by
  refine ⟨h.1, ?_⟩
  rcases h.2 with hn | ⟨g, cap, cur, rfl, hbg, hg, rest⟩
  · exact .inl hn
  · exact .inr ⟨g, cap, cur, rfl, hbg, (hb.block g (Array.getElem?_eq_some_iff.1 hg).1).trans hg, rest⟩

theorem own_sl {α : Type} {w : World} {base : Nat} {e : TypeId} {sz : Nat} {v : Value} {l : List α} {E : α → List Value} {R : α → Nat → Nat → Prop} (hE : ∀ x, (E x).length = sz)
    (hR : ∀ x b o, (∀ i u, (E x)[i]? = some u → w.cell? ⟨b, o + i, none⟩ = some u) → R x b o) (h : w.ownsRow base e sz v l.length (l.flatMap E)) : ∃ A c, v = .slice A l.length c ∧ SlR sz R A l.length l := by
  rcases h.2 with ⟨rfl, h0⟩ | ⟨g, cap, cur, rfl, hbg, hg, hnc, hcm, hcs, htk⟩
  · rw [h0]
    refine ⟨none, 0, rfl, ?_⟩
    have : l = [] := List.eq_nil_of_length_eq_zero h0
    subst this
    exact SlR.nil _ _ _
  · refine ⟨_, cap, rfl, rfl, by unfold maxLen at hcm; omega, .inr ⟨g, 0, rfl, fun k hk => hR _ _ _ fun i u hu => ?_⟩⟩
    have hi : i < sz := by
      have := (List.getElem?_eq_some_iff.1 hu).1
      rw [hE] at this; exact this
    have h1 : (l.flatMap E)[k * sz + i]? = some u := by
      rw [← hu]
      have : ∀ (l : List α) (k : Nat) (hk : k < l.length), (l.flatMap E)[k * sz + i]? = (E l[k])[i]? := by
        intro l
        induction l with
        | nil => intro k hk; simp at hk
        | cons a r ih =>
          intro k hk
          cases k with
          | zero => simp only [List.flatMap_cons, Nat.zero_mul, Nat.zero_add]; rw [List.getElem?_append_left (by rw [hE]; exact hi)]; rfl
          | succ k =>
            simp only [List.flatMap_cons]
            rw [List.getElem?_append_right (by rw [hE, Nat.succ_mul]; omega), hE]
            have e1 : (k + 1) * sz + i - sz = k * sz + i := by rw [Nat.succ_mul]; omega
            rw [e1]
            exact ih k (by simpa using hk)
      exact this l k hk
    have h2 := h.cells (g := g) rfl _ _ h1
    rw [add_none] at h2
    rw [show 0 + k * sz + i = 0 + (k * sz + i) by omega]
    exact h2

theorem run_append_none {P : Program} {w : World} (base : Nat) (t ty e : TypeId) (i : TypeInfo) (size : Nat) (ht : P.underlying t = some (.slice e)) (hi : P.info? e = some i)
    (v : Value) (n : Nat) (xs : List Value) (hown : w.ownsRow base e size v n xs) (A : Option Addr) (c : Nat) :
    (Builtin.append_ #[t, t] ty #[v, .slice A 0 c]).run P w = .ok v w := by
  rcases hown.2 with ⟨rfl, rfl⟩ | ⟨g, cap, cur, rfl, _, _, hnc, _⟩
  · cases A <;> simp [Builtin.append_, run_underlying ht, sizeOf, typeInfo, hi, Builtin.lenOf, Builtin.firstCells, loadCells, loadCellsFrom]
  · cases A <;> simp [Builtin.append_, run_underlying ht, sizeOf, typeInfo, hi, Builtin.lenOf, Builtin.firstCells, hnc, storeCells, loadCells, loadCellsFrom]

theorem own_made {w : World} {base : Nat} {e : TypeId} {size : Nat} {g : Nat} (hg : g = w.heap.size) (hb : base ≤ g) : (w.alloc (.cells #[] e)).ownsRow base e size (.slice (some ⟨g, 0, none⟩) 0 0) 0 [] := by
  subst hg
  exact World.ownsRow_made _ _ 0 hb (by decide) (by simp)
theorem own_mono {w : World} {base base' : Nat} {e : TypeId} {sz : Nat} {v : Value} {n : Nat} {xs : List Value} (h : w.ownsRow base e sz v n xs) (hb : base' ≤ base) : w.ownsRow base' e sz v n xs := by
  refine ⟨h.1, ?_⟩
  rcases h.2 with hn | ⟨g, cap, cur, rfl, hbg, rest⟩
  · exact .inl hn
  · exact .inr ⟨g, cap, cur, rfl, by omega, rest⟩
theorem own_set {w : World} {base : Nat} {e : TypeId} {sz : Nat} {v : Value} {n : Nat} {xs : List Value} (h : w.ownsRow base e sz v n xs) {p : Addr} (hne : v.ownBlock ≠ some p.block) (u : Value) : (w.setCell p u).ownsRow base e sz v n xs := by
  refine ⟨h.1, ?_⟩
  rcases h.2 with hn | ⟨g, cap, cur, rfl, hbg, hg, rest⟩
  · exact .inl hn
  · exact .inr ⟨g, cap, cur, rfl, hbg, (Below.heap_setCell w p u g (fun e => hne (by simp [Value.ownBlock, e]))).trans hg, rest⟩
theorem new_cells {w : World} {g : Nat} {cs : Array Value} {t : TypeId} (h : g = w.heap.size) : ∀ j u, cs.toList[j]? = some u → (w.alloc (.cells cs t)).cell? ((⟨g, 0, none⟩ : Addr).add j) = some u := by
  intro j u hj
  rw [add_none, (Blk.newAt h).cell, ← hj]
  simp
theorem take_snoc {α : Type} {l r : List α} {k : Nat} {x : α} (h : l.drop k = x :: r) : l.take (k + 1) = l.take k ++ [x] := by
  have : l[k]? = some x := by rw [← List.head?_drop, h]; rfl
  rw [List.take_add_one, this]; rfl

theorem wpList_append_sl {P : Program} {w : World} {ops : Array Oper} {rest : List Oper} {o : Oper} {a : Act} {Q : Exit → Act → World → Prop} (hgd : o.guard = none) (s x : Operand) (t : TypeId)
    (ho : o.op = .call { callee := .builtin .append, args := #[s, x], argTypes := #[t, t] })
    (base : Nat) (e : TypeId) (i : TypeInfo) (z : Value) (size bytes : Nat) (ht : P.underlying t = some (.slice e)) (hi : P.info? e = some i) (hz : i.zero = some z)
    (hsize : i.size = size) (hby : i.bytes = bytes) (hzs : z.cells.size = size) (hsz : 0 < size)
    (v : Value) (n : Nat) (xs : List Value) (hs : a.eval s = v) (hown : w.ownsRow base e size v n xs)
    (A : Option Addr) (m c : Nat) (news : List Value) (hx : a.eval x = .slice A m c) (hl : news.length = m * size) (hnews : m = 0 ∨ ∃ ad, A = some ad ∧ ∀ j u, news[j]? = some u → w.cell? (ad.add j) = some u) (h1 : ∀ u ∈ news, u.oneCell' = true)
    (h63 : n + m ≤ maxLen) (hbytes : (n + m) * bytes ≤ 140737488355328) (hbase : base ≤ w.heap.size)
    (h : ∀ v' w', w'.ownsRow base e size v' (n + m) (xs ++ news) → w.grownBy w' v.ownBlock → (v' = .slice none 0 0 → v = .slice none 0 0) → wpList P ops Q rest (a.put o.dst v') w') : wpList P ops Q (o :: rest) a w := by
  rcases hnews with rfl | ⟨ad, rfl, hnews⟩
  · have hn : news = [] := List.eq_nil_of_length_eq_zero (by simpa using hl)
    subst hn
    refine wpList_plain hgd fun K hK => ?_
    have hrun := run_append_none (P := P) (w := w) base t o.type e i size ht hi v n xs hown A c
    unfold Oper.wp
    simp [execOp, ho, resolve, invoke, builtin, hs, hx, hrun, Result.andThen]
    have h2 := h v w (by simpa using hown) ⟨rfl, rfl, rfl, Nat.le_refl _, fun _ _ _ => rfl⟩ id
    exact hK _ _ h2
  · exact wpList_append_own w hgd s x t ho base e i z size bytes ht hi hz hsize hby hzs hsz v n xs hs hown ad m c news hx hl hnews h1 h63 hbytes hbase fun v' w' h2 h3 h4 => h v' w' h2 h3 fun e => (h4.1 e).1

def vecC (p : Vec) : List Value := [.int .i64 p.x, .int .i64 p.y]
def intC (n : Int) : List Value := [.int .i64 n]

theorem sl_news {α : Type} {w : World} {sz : Nat} {A : Option Addr} {n : Nat} {l : List α} {E : α → List Value} {R : α → Nat → Nat → Prop} (hE : ∀ x, (E x).length = sz)
    (hR : ∀ x b o, R x b o → ∀ i u, (E x)[i]? = some u → w.cell? ⟨b, o + i, none⟩ = some u) (h : SlR sz R A n l) :
    n = 0 ∨ ∃ ad, A = some ad ∧ ∀ j u, (l.flatMap E)[j]? = some u → w.cell? (ad.add j) = some u := by
  rcases h.2.2 with h0 | ⟨b, off, rfl, hc⟩
  · exact .inl h0
  · refine .inr ⟨_, rfl, fun j u hj => ?_⟩
    rw [add_none]
    have : ∀ (l : List α) (off : Nat), (∀ k (h : k < l.length), R l[k] b (off + k * sz)) → ∀ j u, (l.flatMap E)[j]? = some u → w.cell? ⟨b, off + j, none⟩ = some u := by
      intro l
      induction l with
      | nil => intro off _ j u hj; simp at hj
      | cons a r ih =>
        intro off hc j u hj
        simp only [List.flatMap_cons] at hj
        by_cases hlt : j < sz
        · rw [List.getElem?_append_left (by rw [hE]; exact hlt)] at hj
          have := hc 0 (by simp)
          rw [Nat.zero_mul] at this
          exact hR _ _ _ this j u hj
        · rw [List.getElem?_append_right (by rw [hE]; omega), hE] at hj
          have := ih (off + sz) (fun k hk => by
            have := hc (k + 1) (by simpa using hk)
            rw [Nat.succ_mul] at this
            rw [show off + sz + k * sz = off + (k * sz + sz) by omega]
            exact this) _ _ hj
          rw [show off + sz + (j - sz) = off + j by omega] at this
          exact this
    exact this l off hc j u hj
theorem flat_len {α : Type} {sz : Nat} {E : α → List Value} (hE : ∀ x, (E x).length = sz) : ∀ l : List α, (l.flatMap E).length = l.length * sz
  | [] => by simp
  | a :: r => by simp only [List.flatMap_cons, List.length_append, hE, flat_len hE r, List.length_cons, Nat.succ_mul]; omega
theorem flat_one {α : Type} {E : α → List Value} (hE : ∀ x, ∀ u ∈ E x, u.oneCell' = true) (l : List α) : ∀ u ∈ l.flatMap E, u.oneCell' = true := by
  intro u hu
  obtain ⟨x, _, hx⟩ := List.mem_flatMap.1 hu
  exact hE x u hx
theorem vec_len (x : Vec) : (vecC x).length = 2 := rfl
theorem vec_read (w : World) (x : Vec) (b o : Nat) (h : ∀ i u, (vecC x)[i]? = some u → w.cell? ⟨b, o + i, none⟩ = some u) : vecAt w x b o := ⟨h 0 _ rfl, h 1 _ rfl⟩
end Go.Proofs.YtiladlangkjoiaaGreat

namespace Go.Proofs.YtiladlangkjoiaaGreat
open Go.RowKit

def OwnBodies (base : Nat) (w : World) (v : Value) (l : List Body) (bs : List Nat) : Prop :=
  ∃ raw : List (List Value), raw.length = l.length ∧ (∀ r ∈ raw, r.length = 3) ∧ w.ownsRow base 128 3 v l.length raw.flatten ∧ bs.length = l.length ∧
    (∀ k (h : k < l.length), ∃ bk cap, bs[k]? = some bk ∧ raw[k]? = some [.int .i64 l[k].mu, .int .i64 l[k].radius, .slice (some ⟨bk, 0, none⟩) l[k].track.length cap] ∧
      w.ownsRow base 28 2 (.slice (some ⟨bk, 0, none⟩) l[k].track.length cap) l[k].track.length (l[k].track.flatMap vecC)) ∧ bs.Pairwise (· < ·)
theorem OwnBodies.nil (base : Nat) (w : World) : OwnBodies base w (.slice none 0 0) [] [] :=
  ⟨[], rfl, (by intro r h; cases h), World.ownsRow_nil _ _ _ _, rfl, (by intro k h; cases h), List.Pairwise.nil⟩
theorem OwnBodies.ext {base : Nat} {w w' : World} {v : Value} {l : List Body} {bs : List Nat} (h : OwnBodies base w v l bs) (e : Ext w w') : OwnBodies base w' v l bs := by
  obtain ⟨raw, h1, h2, h3, h4, h5, h6⟩ := h
  refine ⟨raw, h1, h2, own_ext_keep h3 e, h4, fun k hk => ?_, h6⟩
  obtain ⟨bk, cap, g1, g2, g3⟩ := h5 k hk
  exact ⟨bk, cap, g1, g2, own_ext_keep g3 e⟩
theorem OwnBodies.lt {base : Nat} {w : World} {v : Value} {l : List Body} {bs : List Nat} (h : OwnBodies base w v l bs) : ∀ b ∈ bs, b < w.heap.size := by
  obtain ⟨raw, h1, h2, h3, h4, h5, h6⟩ := h
  intro b hb
  obtain ⟨k, hk, rfl⟩ := List.mem_iff_getElem.1 hb
  obtain ⟨bk, cap, g1, g2, g3⟩ := h5 k (by omega)
  have := (g3.lt bk rfl).2
  rw [List.getElem?_eq_getElem hk] at g1
  injection g1 with g1
  omega
theorem OwnBodies.mono {base base' : Nat} {w : World} {v : Value} {l : List Body} {bs : List Nat} (h : OwnBodies base w v l bs) (hb : base' ≤ base) : OwnBodies base' w v l bs := by
  obtain ⟨raw, h1, h2, h3, h4, h5, h6⟩ := h
  refine ⟨raw, h1, h2, own_mono h3 hb, h4, fun k hk => ?_, h6⟩
  obtain ⟨bk, cap, g1, g2, g3⟩ := h5 k hk
  exact ⟨bk, cap, g1, g2, own_mono g3 hb⟩
theorem own_block_ge {w : World} {base : Nat} {e : TypeId} {sz : Nat} {v : Value} {n : Nat} {xs : List Value} (h : w.ownsRow base e sz v n xs) {b : Nat} (hb : b < base) : v.ownBlock ≠ some b := fun hx => by
  have := (h.lt b hx).1; omega
theorem OwnBodies.set {base : Nat} {w : World} {v : Value} {l : List Body} {bs : List Nat} (h : OwnBodies base w v l bs) {p : Addr} (hp : p.block < base) (u : Value) : OwnBodies base (w.setCell p u) v l bs := by
  obtain ⟨raw, h1, h2, h3, h4, h5, h6⟩ := h
  refine ⟨raw, h1, h2, own_set h3 (own_block_ge h3 hp) u, h4, fun k hk => ?_, h6⟩
  obtain ⟨bk, cap, g1, g2, g3⟩ := h5 k hk
  exact ⟨bk, cap, g1, g2, own_set g3 (own_block_ge g3 hp) u⟩
end Go.Proofs.YtiladlangkjoiaaGreat

namespace Go.Proofs.YtiladlangkjoiaaGreat
open Go.RowKit

theorem OwnBodies.sl {base : Nat} {w : World} {v : Value} {l : List Body} {bs : List Nat} (h : OwnBodies base w v l bs) : ∃ A c, v = .slice A l.length c ∧ Bodies w A l.length l := by
  obtain ⟨raw, h1, h2, h3, h4, h5, h6⟩ := h
  rcases h3.2 with ⟨rfl, h0⟩ | ⟨g, cap, cur, rfl, hbg, hg, hnc, hcm, hcs, htk⟩
  · rw [h0]
    have : l = [] := List.eq_nil_of_length_eq_zero h0
    subst this
    exact ⟨none, 0, rfl, SlR.nil _ _ _⟩
  · refine ⟨_, cap, rfl, rfl, by unfold maxLen at hcm; omega, .inr ⟨g, 0, rfl, fun k hk => ?_⟩⟩
    obtain ⟨bk, cp, q1, q2, q3⟩ := h5 k hk
    have hr : ∀ i u, (([.int .i64 l[k].mu, .int .i64 l[k].radius, .slice (some ⟨bk, 0, none⟩) l[k].track.length cp] : List Value))[i]? = some u → w.cell? ⟨g, 0 + k * 3 + i, none⟩ = some u := by
      intro i u hu
      have hi : i < 3 := (List.getElem?_eq_some_iff.1 hu).1
      have h7 : raw.flatten[k * 3 + i]? = some u := by
        have : ∀ (raw : List (List Value)) (k : Nat) (r : List Value), (∀ r ∈ raw, r.length = 3) → raw[k]? = some r → raw.flatten[k * 3 + i]? = r[i]? := by
          intro raw
          induction raw with
          | nil => intro k r _ h; simp at h
          | cons a q ih =>
            intro k r hl hk
            have ha := hl a (by simp)
            cases k with
            | zero =>
              simp at hk; subst hk
              simp only [List.flatten_cons, Nat.zero_mul, Nat.zero_add]
              rw [List.getElem?_append_left (by rw [ha]; exact hi)]
            | succ k =>
              simp only [List.flatten_cons]
              rw [List.getElem?_append_right (by rw [ha]; omega), ha, show (k + 1) * 3 + i - 3 = k * 3 + i by omega]
              exact ih k r (fun r hr => hl r (by simp [hr])) (by simpa using hk)
        rw [this raw k _ h2 q2, hu]
      have h8 := h3.cells (g := g) rfl _ _ h7
      rw [add_none] at h8
      rw [show 0 + k * 3 + i = 0 + (k * 3 + i) by omega]
      exact h8
    obtain ⟨A, c, e1, e2⟩ := own_sl vec_len (vec_read w) q3
    injection e1 with e1a e1b e1c
    subst e1a e1c
    exact ⟨hr 0 _ rfl, hr 1 _ rfl, _, _, _, hr 2 _ rfl, e2⟩
end Go.Proofs.YtiladlangkjoiaaGreat

namespace Go.Proofs.YtiladlangkjoiaaGreat
open Go.RowKit

def atM (l : List Body) (home body tick : Int) : Vec :=
  if wldErr ⟨l, home⟩ = 0 ∧ (0 ≤ body ∧ body < l.length) ∧ within tick 0 1073741824 = true then trackAt (l.getD body.toNat ⟨0, 0, []⟩).track tick else ⟨0, 0⟩
theorem atM_no {l : List Body} {home body tick : Int} (h : ¬ (wldErr ⟨l, home⟩ = 0 ∧ (0 ≤ body ∧ body < l.length) ∧ within tick 0 1073741824 = true)) : atM l home body tick = ⟨0, 0⟩ := if_neg h
theorem atM_yes {l : List Body} {home tick : Int} {k : Nat} {x : Body} (h : wldErr ⟨l, home⟩ = 0) (hx : l[k]? = some x) (ht : within tick 0 1073741824 = true) : atM l home k tick = trackAt x.track tick := by
  have hk : k < l.length := (List.getElem?_eq_some_iff.1 hx).1
  rw [atM, if_pos ⟨h, ⟨by omega, by omega⟩, ht⟩, Int.toNat_natCast, List.getD_eq_getElem?_getD, hx]
  rfl

set_option maxRecDepth 4000 in
set_option maxHeartbeats 1000000 in
theorem At_c (A : Option Addr) (n c : Nat) (home body tick : Int) (l : List Body) (w : World) (hl : Bodies w A n l) :
    Calls Tryz.prog 86 #[.agg #[.slice A n c, .int .i64 home], .int .i64 body, .int .i64 tick] w fun e w' => e = .returned (.agg #[.int .i64 (atM l home body tick).x, .int .i64 (atM l home body tick).y]) ∧ Ext w w' := by
  have hn := hl.le
  have hln := hl.len
  have HW := Lib.hid fun W (hW : Ext w W) => CheckWorld_c A n c home l W (Bodies.ext hW hl)
  by_cases h0 : wldErr ⟨l, home⟩ = 0
  · rw [h0] at HW
    by_cases hb : 0 ≤ body ∧ body < l.length
    · obtain ⟨k, rfl⟩ := Int.eq_ofNat_of_zero_le hb.1
      have hk : k < l.length := by omega
      have hx : l[k]? = some l[k] := List.getElem?_eq_getElem hk
      generalize l[k] = x at hx
      cases ht : within tick 0 1073741824
      · rw [atM_no (by simp [ht])]
        have Ht := Lib.hid ht
        have hkn : k < n := by omega
        clear h0 hx ht hln hl hb hk
        go_enter Tryz.func86, Tryz.ntmps86
        go_wp2_with fail
        refine (HW.out _ ext_by).mono ?_
        rintro e w1 ⟨rfl, h1⟩; obtain ⟨hc_w1, hf_w1, hz_w1⟩ := bcell h1; (try simp only [szA] at hz_w1); have : w.heap.size < w1.heap.size := (by omega); have : w.heap.size + 1 < w1.heap.size := (by omega)
        go_wp2_with fail
        refine (within_c _ _ _ _).mono ?_
        rintro e w3 ⟨rfl, rfl⟩
        rw [Ht.out]
        go_wp2_with fail
        (try simp only [Exit.inBlock, Exit.then]); apply bodyPost_ret; (focus (simp only [results, Tryz.results86]; go_simp; try rfl)); rfl
        exact ⟨rfl, ext_by⟩
      · rw [atM_yes h0 hx ht]
        have Ht := Lib.hid ht
        have hkn : k < n := by omega
        have hbd := body_ok ((wld_ok h0).2.2 x (List.mem_of_getElem? hx))
        have ht' := (within_iff _ _ _).1 ht
        obtain ⟨hin, b, off, rfl, hc⟩ := hl.get hx
        clear h0 hx ht hln hb hk hl
        go_enter Tryz.func86, Tryz.ntmps86
        go_wp2_with fail
        refine (HW.out _ ext_by).mono ?_
        rintro e w1 ⟨rfl, h1⟩; obtain ⟨hc_w1, hf_w1, hz_w1⟩ := bcell h1; (try simp only [szA] at hz_w1); have : w.heap.size < w1.heap.size := (by omega); have : w.heap.size + 1 < w1.heap.size := (by omega)
        obtain ⟨hd0, hd1, A', n', c', hd2, hl'⟩ := bodyAt.ext (show Ext w w1 by exact ext_by) hc
        have hb0 := World.block_lt_of_cell? w1 _ hd0
        dsimp only at hb0
        have HT := Lib.hid fun W (hW : Ext w1 W) => trackat_c A' n' c' x.track tick W (Vecs.ext hW hl') hbd.1 ht'.1 ht'.2
        clear hl' hc hbd ht'
        go_wp2_with fail
        refine (within_c _ _ _ _).mono ?_
        rintro e w3 ⟨rfl, rfl⟩
        rw [Ht.out]
        go_wp2_with fail
        refine (HT.out _ ext_by).mono ?_
        rintro e w2 ⟨rfl, h2⟩; obtain ⟨hc_w2, hf_w2, hz_w2⟩ := bcell h2; (try simp only [szA] at hz_w2); have : w.heap.size < w2.heap.size := (by omega); have : w.heap.size + 1 < w2.heap.size := (by omega)
        go_wp2_with fail
        (try simp only [Exit.inBlock, Exit.then]); apply bodyPost_ret; (focus (simp only [results, Tryz.results86]; go_simp; try rfl)); rfl
        exact ⟨rfl, ext_by⟩
    · rw [atM_no (fun h => hb h.2.1)]
      clear h0
      by_cases hb0 : body < 0
      · clear hb hl hln
        go_enter Tryz.func86, Tryz.ntmps86
        go_wp2_with fail
        refine (HW.out _ ext_by).mono ?_
        rintro e w1 ⟨rfl, h1⟩; obtain ⟨hc_w1, hf_w1, hz_w1⟩ := bcell h1; (try simp only [szA] at hz_w1); have : w.heap.size < w1.heap.size := (by omega); have : w.heap.size + 1 < w1.heap.size := (by omega)
        go_wp2_with fail
        (try simp only [Exit.inBlock, Exit.then]); apply bodyPost_ret; (focus (simp only [results, Tryz.results86]; go_simp; try rfl)); rfl
        exact ⟨rfl, ext_by⟩
      · have hb1 : (n : Int) ≤ body := by omega
        have hb2 : 0 ≤ body := by omega
        clear hb hl hln hb0
        go_enter Tryz.func86, Tryz.ntmps86
        go_wp2_with fail
        refine (HW.out _ ext_by).mono ?_
        rintro e w1 ⟨rfl, h1⟩; obtain ⟨hc_w1, hf_w1, hz_w1⟩ := bcell h1; (try simp only [szA] at hz_w1); have : w.heap.size < w1.heap.size := (by omega); have : w.heap.size + 1 < w1.heap.size := (by omega)
        go_wp2_with fail
        (try simp only [Exit.inBlock, Exit.then]); apply bodyPost_ret; (focus (simp only [results, Tryz.results86]; go_simp; try rfl)); rfl
        exact ⟨rfl, ext_by⟩
  · rw [atM_no (fun h => h0 h.1)]
    have h0' : (wldErr ⟨l, home⟩ != 0) = true := by simpa using h0
    generalize wldErr ⟨l, home⟩ = M at *
    clear hl hln h0
    go_enter Tryz.func86, Tryz.ntmps86
    go_wp2_with fail
    refine (HW.out _ ext_by).mono ?_
    rintro e w1 ⟨rfl, h1⟩; obtain ⟨hc_w1, hf_w1, hz_w1⟩ := bcell h1; (try simp only [szA] at hz_w1); have : w.heap.size < w1.heap.size := (by omega); have : w.heap.size + 1 < w1.heap.size := (by omega)
    go_wp2_with fail
    (try simp only [Exit.inBlock, Exit.then]); apply bodyPost_ret; (focus (simp only [results, Tryz.results86]; go_simp; try rfl)); rfl
    exact ⟨rfl, ext_by⟩

set_option maxRecDepth 4000 in
set_option maxHeartbeats 1000000 in
theorem refAt_c (A : Option Addr) (n c : Nat) (home body tick : Int) (l : List Body) (w : World) (hl : Bodies w A n l) :
    Calls Tryz.prog 109 #[.agg #[.slice A n c, .int .i64 home], .int .i64 body, .int .i64 tick] w fun e w' => e = .returned (.agg #[.int .i64 (atM l home body tick).x, .int .i64 (atM l home body tick).y]) ∧ Ext w w' := by
  have hn := hl.le
  have hln := hl.len
  have HW := Lib.hid fun W (hW : Ext w W) => refWorld_c A n c home l W (Bodies.ext hW hl)
  by_cases h0 : wldErr ⟨l, home⟩ = 0
  · rw [h0] at HW
    by_cases hb : 0 ≤ body ∧ body < l.length
    · obtain ⟨k, rfl⟩ := Int.eq_ofNat_of_zero_le hb.1
      have hk : k < l.length := by omega
      have hx : l[k]? = some l[k] := List.getElem?_eq_getElem hk
      generalize l[k] = x at hx
      cases ht : within tick 0 1073741824
      · rw [atM_no (by simp [ht])]
        have Ht := Lib.hid ht
        have hkn : k < n := by omega
        clear h0 hx ht hln hl hb hk
        go_enter Tryz.func109, Tryz.ntmps109
        go_wp2_with fail
        refine (HW.out _ ext_by).mono ?_
        rintro e w1 ⟨rfl, h1⟩; obtain ⟨hc_w1, hf_w1, hz_w1⟩ := bcell h1; (try simp only [szA] at hz_w1); have : w.heap.size < w1.heap.size := (by omega); have : w.heap.size + 1 < w1.heap.size := (by omega)
        go_wp2_with fail
        refine (between_c _ _ _ _).mono ?_
        rintro e w3 ⟨rfl, rfl⟩
        rw [Ht.out]
        go_wp2_with fail
        (try simp only [Exit.inBlock, Exit.then]); apply bodyPost_ret; (focus (simp only [results, Tryz.results109]; go_simp; try rfl)); rfl
        exact ⟨rfl, ext_by⟩
      · rw [atM_yes h0 hx ht]
        have Ht := Lib.hid ht
        have hkn : k < n := by omega
        have hbd := body_ok ((wld_ok h0).2.2 x (List.mem_of_getElem? hx))
        have ht' := (within_iff _ _ _).1 ht
        have HT := Lib.hid fun W (hW : Ext w W) => refat_c A n c home l k x tick W (Bodies.ext hW hl) hx hbd.1 ht'.1 ht'.2
        clear h0 hx ht hln hb hk hl hbd ht'
        go_enter Tryz.func109, Tryz.ntmps109
        go_wp2_with fail
        refine (HW.out _ ext_by).mono ?_
        rintro e w1 ⟨rfl, h1⟩; obtain ⟨hc_w1, hf_w1, hz_w1⟩ := bcell h1; (try simp only [szA] at hz_w1); have : w.heap.size < w1.heap.size := (by omega); have : w.heap.size + 1 < w1.heap.size := (by omega)
        go_wp2_with fail
        refine (between_c _ _ _ _).mono ?_
        rintro e w3 ⟨rfl, rfl⟩
        rw [Ht.out]
        go_wp2_with fail
        refine (HT.out _ ext_by).mono ?_
        rintro e w2 ⟨rfl, h2⟩; obtain ⟨hc_w2, hf_w2, hz_w2⟩ := bcell h2; (try simp only [szA] at hz_w2); have : w.heap.size < w2.heap.size := (by omega); have : w.heap.size + 1 < w2.heap.size := (by omega)
        go_wp2_with fail
        (try simp only [Exit.inBlock, Exit.then]); apply bodyPost_ret; (focus (simp only [results, Tryz.results109]; go_simp; try rfl)); rfl
        exact ⟨rfl, ext_by⟩
    · rw [atM_no (fun h => hb h.2.1)]
      clear h0
      by_cases hb0 : body < 0
      · clear hb hl hln
        go_enter Tryz.func109, Tryz.ntmps109
        go_wp2_with fail
        refine (HW.out _ ext_by).mono ?_
        rintro e w1 ⟨rfl, h1⟩; obtain ⟨hc_w1, hf_w1, hz_w1⟩ := bcell h1; (try simp only [szA] at hz_w1); have : w.heap.size < w1.heap.size := (by omega); have : w.heap.size + 1 < w1.heap.size := (by omega)
        go_wp2_with fail
        (try simp only [Exit.inBlock, Exit.then]); apply bodyPost_ret; (focus (simp only [results, Tryz.results109]; go_simp; try rfl)); rfl
        exact ⟨rfl, ext_by⟩
      · have hb1 : (n : Int) ≤ body := by omega
        have hb2 : 0 ≤ body := by omega
        clear hb hl hln hb0
        go_enter Tryz.func109, Tryz.ntmps109
        go_wp2_with fail
        refine (HW.out _ ext_by).mono ?_
        rintro e w1 ⟨rfl, h1⟩; obtain ⟨hc_w1, hf_w1, hz_w1⟩ := bcell h1; (try simp only [szA] at hz_w1); have : w.heap.size < w1.heap.size := (by omega); have : w.heap.size + 1 < w1.heap.size := (by omega)
        go_wp2_with fail
        (try simp only [Exit.inBlock, Exit.then]); apply bodyPost_ret; (focus (simp only [results, Tryz.results109]; go_simp; try rfl)); rfl
        exact ⟨rfl, ext_by⟩
  · rw [atM_no (fun h => h0 h.1)]
    have h0' : (wldErr ⟨l, home⟩ != 0) = true := by simpa using h0
    generalize wldErr ⟨l, home⟩ = M at *
    clear hl hln h0
    go_enter Tryz.func109, Tryz.ntmps109
    go_wp2_with fail
    refine (HW.out _ ext_by).mono ?_
    rintro e w1 ⟨rfl, h1⟩; obtain ⟨hc_w1, hf_w1, hz_w1⟩ := bcell h1; (try simp only [szA] at hz_w1); have : w.heap.size < w1.heap.size := (by omega); have : w.heap.size + 1 < w1.heap.size := (by omega)
    go_wp2_with fail
    (try simp only [Exit.inBlock, Exit.then]); apply bodyPost_ret; (focus (simp only [results, Tryz.results109]; go_simp; try rfl)); rfl
    exact ⟨rfl, ext_by⟩
end Go.Proofs.YtiladlangkjoiaaGreat

namespace Go.Proofs.YtiladlangkjoiaaGreat
open Go.RowKit

section
variable {P : Program}
theorem runs_append {w : World} {o : Oper} {a : Act} (s x : Operand) (t : TypeId)
    (ho : o.op = .call { callee := .builtin .append, args := #[s, x], argTypes := #[t, t] })
    (base : Nat) (e : TypeId) (i : TypeInfo) (z : Value) (size bytes : Nat) (ht : P.underlying t = some (.slice e)) (hi : P.info? e = some i) (hz : i.zero = some z)
    (hsize : i.size = size) (hby : i.bytes = bytes) (hzs : z.cells.size = size) (hsz : 0 < size)
    (v : Value) (n : Nat) (xs : List Value) (hs : a.eval s = v) (hown : w.ownsRow base e size v n xs)
    (A : Option Addr) (m c : Nat) (news : List Value) (hx : a.eval x = .slice A m c) (hl : news.length = m * size) (hnews : m = 0 ∨ ∃ ad, A = some ad ∧ ∀ j u, news[j]? = some u → w.cell? (ad.add j) = some u) (h1 : ∀ u ∈ news, u.oneCell' = true)
    (h63 : n + m ≤ maxLen) (hbytes : (n + m) * bytes ≤ 140737488355328) (hbase : base ≤ w.heap.size) {G : Value → World → Prop}
    (h : ∀ v' w', w'.ownsRow base e size v' (n + m) (xs ++ news) → w.grownBy w' v.ownBlock → (v' = .slice none 0 0 → v = .slice none 0 0) → G v' w') : RunsTo P G ((execOp a.eval o).run P w) := by
  rcases hnews with rfl | ⟨ad, rfl, hnews⟩
  · have hn : news = [] := List.eq_nil_of_length_eq_zero (by simpa using hl)
    subst hn
    have hrun := run_append_none (P := P) (w := w) base t o.type e i size ht hi v n xs hown A c
    have h2 := h v w (by simpa using hown) ⟨rfl, rfl, rfl, Nat.le_refl _, fun _ _ _ => rfl⟩ id
    simpa [execOp, ho, resolve, invoke, builtin, hs, hx, hrun, Result.andThen, RunsTo] using h2
  · obtain ⟨v', w', hrun, h2, h3, h4⟩ := run_append_own (P := P) (w := w) base t o.type e i z size bytes ht hi hz hsize hby hzs hsz v n xs hown ad m c news hl hnews h1 h63 hbytes hbase
    have h5 := h v' w' h2 h3 fun e => (h4.1 e).1
    simpa [execOp, ho, resolve, invoke, builtin, hs, hx, hrun, Result.andThen, RunsTo] using h5
theorem runs_val {w : World} {o : Oper} {a : Act} {v : Value} {G : Value → World → Prop} (hrun : (execOp a.eval o).run P w = .ok (.value v) w) (h : G v w) : RunsTo P G ((execOp a.eval o).run P w) := by
  rw [hrun]; exact h
theorem runs_to {w w1 : World} {o : Oper} {a : Act} {v : Value} {G : Value → World → Prop} (hrun : (execOp a.eval o).run P w = .ok (.value v) w1) (h : G v w1) : RunsTo P G ((execOp a.eval o).run P w) := by
  rw [hrun]; exact h
theorem runs_call {w : World} {o : Oper} {a : Act} {f : FuncId} {args : Array Value} {G : Value → World → Prop} (hrun : (execOp a.eval o).run P w = .ok (.enter f args) w) (h : Calls P f args w fun e w' => ∃ v, e = .returned v ∧ G v w') : RunsTo P G ((execOp a.eval o).run P w) := by
  rw [hrun]; exact h
end
end Go.Proofs.YtiladlangkjoiaaGreat

namespace Go.Proofs.YtiladlangkjoiaaGreat
open Go.RowKit

section
variable {P : Program} {Q : Exit → Act → World → Prop} {S : World → Prop}
theorem rel_goT {l : List Oper} (sk : List SK) (es : List (SK × GT)) {F : World → Prop} {a' : Act} {T : List Oper} (hst : Stable F) (hFS : ∀ w, F w → S w) (hes : es.map (·.1) = sk) (hok : skOk l.toArray sk = true)
    (h1 : obF P l F es a' es) (hQ : ∀ val, TG P S Q T (putP l val (sk.map (·.j)) a') fun w => F w ∧ finF es val w es) : AD P l.toArray S Q T (sk.map (·.j)).length (sk.map (·.j)) a' F := by
  have hnd : (es.map (·.1.j)).Nodup := by
    have := hok
    simp only [skOk, Bool.and_eq_true, decide_eq_true_eq] at this
    have h2 := this.1.2
    rw [← hes, List.map_map] at h2
    exact h2
  have hs : ∀ s ∈ sk, ∃ g, (s, g) ∈ es ∧ getG es s.j = g := fun s hs => by
    rw [← hes] at hs
    obtain ⟨⟨s', g⟩, hm, rfl⟩ := List.mem_map.1 hs
    exact ⟨g, hm, getG_spec hnd hm⟩
  refine ad_rel sk (getG es) hok hst hFS (fun s hss => ?_) (fun s hss => ?_) (fun s hss val w hw hu => ?_) fun val => ?_
  · obtain ⟨g, hm, e⟩ := hs s hss
    rw [e]
    exact (obF_to h1 s g hm).1
  · obtain ⟨g, hm, e⟩ := hs s hss
    rw [e]
    exact fun val val' hv v w hg => (obF_to h1 s g hm).2.1 val val' v w (useEq_of hv) hg
  · obtain ⟨g, hm, e⟩ := hs s hss
    rw [e, putP_eq, ← pick1_eq]
    refine ((obF_to h1 s g hm).2.2 val w hw (useF_of hu)).mono fun v w1 h => ⟨h.1, ?_⟩
    have h2 := h.2
    cases hsp : s.spoil with
    | none => rw [hsp] at h2; exact h2
    | some lk =>
      obtain ⟨a, k⟩ := lk
      rw [hsp] at h2
      exact ⟨h2.1, keepF_to h2.2⟩
  · have h2 := hQ val
    rw [← putP_eq] at h2
    refine TG.mono _ (fun w hw => ⟨hw.1, finF_of fun s g hmem hall => ?_⟩) h2
    have hss : s ∈ sk := by rw [← hes]; exact List.mem_map.2 ⟨(s, g), hmem, rfl⟩
    have h3 := hw.2 s hss (by
      rw [← hes, List.all_map]
      exact hall)
    rw [getG_spec hnd hmem] at h3
    exact h3
theorem wp_region_relT {id : Nat} {l : List Oper} (Bd : List Nat) (sk : List SK) (es : List (SK × GT)) (Tl : List Nat) (S F : World → Prop) {a : Act} {w : World} (hst : Stable F) (hFS : ∀ w, F w → S w) (hS : F w.drew) (hm : P.follows .mixedOrders = true) (hes : es.map (·.1) = sk)
    (hok : (genD l.toArray Bd (sk.map (·.j)) Tl && skOk l.toArray sk) = true)
    (h : BL P l.toArray S (pick l Bd) a (fun a' => obF P l F es a' es ∧ ∀ val, TG P S Q (pick l Tl) (putP l val (sk.map (·.j)) a') fun w => F w ∧ finF es val w es)) : (Code.region id l.toArray true).wp P Q a w := by
  rw [Bool.and_eq_true] at hok
  have hgo : ∀ a', (obF P l F es a' es ∧ ∀ val, TG P S Q (pick l Tl) (putP l val (sk.map (·.j)) a') fun w => F w ∧ finF es val w es) → AD P l.toArray S Q (pick l Tl) (sk.map (·.j)).length (sk.map (·.j)) a' F := by
    intro a' ha'
    exact rel_goT sk es hst hFS hes hok.2 ha'.1 ha'.2
  have h2 : BL P l.toArray S (pick l Bd) a (fun a' => AD P l.toArray S Q (pick l Tl) (sk.map (·.j)).length (sk.map (·.j)) a' F) := BL.mono _ _ _ _ hgo h
  have h3 := hok.1
  clear hgo hok h
  generalize sk.map (·.j) = al at *
  exact wp_region_D Bd al Tl S F hst hFS hS hm h3 h2
end
end Go.Proofs.YtiladlangkjoiaaGreat

namespace Go.Proofs.YtiladlangkjoiaaGreat
open Go.RowKit

theorem info_int : (Tryz.prog.info? 3).map (fun i => (i.zero, i.size, i.bytes)) = some (some (.int .i64 0), 1, 8) := by kernel_rfl
theorem int_len (x : Int) : (intC x).length = 1 := rfl
theorem int_news (w : World) (x : Int) (b o : Nat) (h : intAt w x b o) : ∀ i u, (intC x)[i]? = some u → w.cell? ⟨b, o + i, none⟩ = some u
  | 0, _, hu => by rw [← hu]; exact h
theorem int_readO (w : World) (x : Int) (b o : Nat) (h : ∀ i u, (intC x)[i]? = some u → w.cell? ⟨b, o + i, none⟩ = some u) : intAt w x b o := h 0 _ rfl
theorem int_one : ∀ x : Int, ∀ u ∈ intC x, u.oneCell' = true := by intro x u hu; simp [intC] at hu; rcases hu with rfl; rfl

def OwnInts (base : Nat) (w : World) (v : Value) (l : List Int) : Prop := w.ownsRow base 3 1 v l.length (l.flatMap intC)
theorem OwnInts.nil (base : Nat) (w : World) : OwnInts base w (.slice none 0 0) [] := World.ownsRow_nil _ _ _ _
theorem OwnInts.ext {base : Nat} {w w' : World} {v : Value} {l : List Int} (h : OwnInts base w v l) (e : Ext w w') : OwnInts base w' v l := own_ext_keep h e
theorem OwnInts.sl {base : Nat} {w : World} {v : Value} {l : List Int} (h : OwnInts base w v l) : ∃ A c, v = .slice A l.length c ∧ Ints w A l.length l := own_sl int_len (int_readO w) h
theorem OwnInts.ofSnoc {base : Nat} {w : World} {v : Value} {l : List Int} {x : Int} {n : Nat} (hn : n = 1) (h : w.ownsRow base 3 1 v (l.length + n) (l.flatMap intC ++ [.int .i64 x])) : OwnInts base w v (l ++ [x]) := by
  subst hn
  unfold OwnInts
  rw [List.length_append, List.flatMap_append]
  exact h
end Go.Proofs.YtiladlangkjoiaaGreat
