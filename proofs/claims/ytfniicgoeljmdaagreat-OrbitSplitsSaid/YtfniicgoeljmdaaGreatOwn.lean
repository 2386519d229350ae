/- Guesses, and whether they miss a sight. No condition. What the reference's Miss answers; what counts as too great. No condition. Slices among the arguments of the sky's laws: what they read as. No condition. Lists that the call itself makes: appends, and what they read as. No condition. -/
import Derived.Test.YtfniicgoeljmdaaGreatAwake
import Derived.Laws.OwnMore
import Derived.OwnWalk
namespace Go.Proofs.YtfniicgoeljmdaaGreat
open Go.RowKit

def gOK (g : St) : Bool := near ⟨g.x, g.y⟩ 33554432 && near ⟨g.u, g.v⟩ 1048576
/-- The bounds of a guess and two ticks. -/
structure GB (g : St) (t0 t : Int) : Prop where
  x : -33554432 ≤ g.x ∧ g.x ≤ 33554432
  y : -33554432 ≤ g.y ∧ g.y ≤ 33554432
  n : -1073741824 ≤ t - t0 ∧ t - t0 ≤ 1073741824
  u : -1125899906842624 ≤ g.u * (t - t0) ∧ g.u * (t - t0) ≤ 1125899906842624
  v : -1125899906842624 ≤ g.v * (t - t0) ∧ g.v * (t - t0) ≤ 1125899906842624
set_option maxHeartbeats 400000 in
theorem Guess_c (gx gy gu gv : Int) (w : World) :
    Calls Tryz.prog 94 #[.agg #[.int .i64 gx, .int .i64 gy, .int .i64 gu, .int .i64 gv]] w fun e w' => e = .returned (.bool (gOK ⟨gx, gy, gu, gv⟩)) ∧ Ext w w' := by
  unfold gOK
  have H1 := Lib.hid fun W => Near_c gx gy W
  dsimp only
  generalize near ⟨gx, gy⟩ 33554432 = B1 at *
  go_enter Tryz.func94, Tryz.ntmps94
  go_wp2_with fail
  refine (H1.out _).mono ?_
  rintro e w1 ⟨rfl, h1⟩; obtain ⟨hc_w1, hf_w1, hz_w1⟩ := bcell h1; (repeat (first | rw [World.size_alloc] at hz_w1 | rw [World.size_drew] at hz_w1 | rw [World.size_setCell] at hz_w1)); have : w.heap.size < w1.heap.size := (by omega)
  cases B1
  · go_wp2_with fail
    go_ret
    exact ⟨ret_b (by simp), by (repeat' (first | exact Ext.refl _ | assumption | apply Ext.alloc | apply Ext.drew | refine Ext.set ?_ (by dsimp only; omega) _ | refine Ext.trans ?_ (by assumption)))⟩
  · go_wp2_with (go_at_call 133; refine (between_c _ _ _ _).mono ?_; rintro e w' ⟨rfl, rfl⟩)
    all_goals go_ret
    all_goals exact ⟨ret_b (by simp_all [near]), by (repeat' (first | exact Ext.refl _ | assumption | apply Ext.alloc | apply Ext.drew | refine Ext.set ?_ (by dsimp only; omega) _ | refine Ext.trans ?_ (by assumption)))⟩

end Go.Proofs.YtfniicgoeljmdaaGreat

namespace Go.Proofs.YtfniicgoeljmdaaGreat
open Go.RowKit

/-- Lists of sights, in memory. -/
def trkAt (w : World) (p : List Sight) (b o : Nat) : Prop := ∃ A n c, w.cell? ⟨b, o, none⟩ = some (.slice A n c) ∧ Sights w A n p
abbrev Trks (w : World) (A : Option Addr) (n : Nat) (l : List (List Sight)) : Prop := SlR 1 (trkAt w) A n l
theorem trkAt.ext {w w' : World} (e : Ext w w') {p : List Sight} {b o : Nat} (h : trkAt w p b o) : trkAt w' p b o := by
  obtain ⟨A, n, c, h1, h2⟩ := h
  exact ⟨A, n, c, e.cell h1, Sights.ext e h2⟩
theorem Trks.ext {w w' : World} (e : Ext w w') {A n l} (h : Trks w A n l) : Trks w' A n l := SlR.mono h fun _ _ _ _ => trkAt.ext e
end Go.Proofs.YtfniicgoeljmdaaGreat

namespace Go.Proofs.YtfniicgoeljmdaaGreat
open Go.RowKit Go.ChangeShapes Go.WideShapes Go.ChangeAt

section
variable {H : Type} {enc : TypeId × Value → H} {w : World} {base : Nat}
instance : Inhabited (List Sight) := ⟨[]⟩
def intAt (w : World) (p : Int) (b o : Nat) : Prop := w.cell? ⟨b, o, none⟩ = some (.int .i64 p)
abbrev Ints (w : World) (A : Option Addr) (n : Nat) (l : List Int) : Prop := SlR 1 (intAt w) A n l
theorem Ints.ext {w w' : World} (e : Ext w w') {A n l} (h : Ints w A n l) : Ints w' A n l := SlR.mono h fun _ _ _ _ hx => e.cell hx
end
end Go.Proofs.YtfniicgoeljmdaaGreat

namespace Go.Proofs.YtfniicgoeljmdaaGreat
open Go.RowKit

theorem grown_ext {w0 w w' : World} {row : Option Nat} (e : Ext w0 w) (h : w.grownBy w' row) (hr : ∀ k, row = some k → w0.heap.size ≤ k) : Ext w0 w' := by
  refine ⟨h.os.trans e.os, h.tape.trans e.tape, h.output.trans e.output, Nat.le_trans e.size h.size, fun k hk => ?_⟩
  refine (h.block k (Nat.lt_of_lt_of_le hk e.size) (fun hx => ?_)).trans (e.block k hk)
  have := hr k hx.symm; omega
theorem own_ext {w0 w w' : World} {base : Nat} {e : TypeId} {sz : Nat} {v : Value} {n : Nat} {xs : List Value} (e0 : Ext w0 w) (ho : w.ownsRow base e sz v n xs) (h : w.grownBy w' v.ownBlock) (hb : w0.heap.size ≤ base) : Ext w0 w' :=
  grown_ext e0 h fun k hk => Nat.le_trans hb (ho.lt k hk).1
theorem Blk.grown {w w' : World} {g : Nat} {t : TypeId} {cs : Array Value} {row : Option Nat} (h : Blk w g t cs) (hg : w.grownBy w' row) (hn : row ≠ some g) : Blk w' g t cs := (hg.block g h.lt (fun e => hn e.symm)).trans h
theorem own_ext_keep {w w' : World} {base : Nat} {e : TypeId} {sz : Nat} {v : Value} {n : Nat} {xs : List Value} (h : w.ownsRow base e sz v n xs) (hb : Ext w w') : w'.ownsRow base e sz v n xs := by
  refine ⟨h.1, ?_⟩
  rcases h.2 with hn | ⟨g, cap, cur, rfl, hbg, hg, rest⟩
  · exact .inl hn
  · exact .inr ⟨g, cap, cur, rfl, hbg, (hb.block g (Array.getElem?_eq_some_iff.1 hg).1).trans hg, rest⟩

/-- What an owned row of l's cells reads as. -/
theorem own_sl {α : Type} {w : World} {base : Nat} {e : TypeId} {sz : Nat} {v : Value} {l : List α} {E : α → List Value} {R : α → Nat → Nat → Prop} (hE : ∀ x, (E x).length = sz)
    (hR : ∀ x b o, (∀ i u, (E x)[i]? = some u → w.cell? ⟨b, o + i, none⟩ = some u) → R x b o) (h : w.ownsRow base e sz v l.length (l.flatMap E)) : ∃ A c, v = .slice A l.length c ∧ SlR sz R A l.length l := by
  rcases h.2 with ⟨rfl, h0⟩ | ⟨g, cap, cur, rfl, hbg, hg, hnc, hcm, hcs, htk⟩
  · rw [h0]
    refine ⟨none, 0, rfl, ?_⟩
    have : l = [] := List.eq_nil_of_length_eq_zero h0
    subst this
    exact SlR.nil _ _ _
  · refine ⟨_, cap, rfl, rfl, by unfold maxLen at hcm; omega, .inr ⟨g, 0, rfl, fun k hk => hR _ _ _ fun i u hu => ?_⟩⟩
    have hi : i < sz := by
      have := (List.getElem?_eq_some_iff.1 hu).1
      rw [hE] at this; exact this
    have h1 : (l.flatMap E)[k * sz + i]? = some u := by
      rw [← hu]
      have : ∀ (l : List α) (k : Nat) (hk : k < l.length), (l.flatMap E)[k * sz + i]? = (E l[k])[i]? := by
        intro l
        induction l with
        | nil => intro k hk; simp at hk
        | cons a r ih =>
          intro k hk
          cases k with
          | zero => simp only [List.flatMap_cons, Nat.zero_mul, Nat.zero_add]; rw [List.getElem?_append_left (by rw [hE]; exact hi)]; rfl
          | succ k =>
            simp only [List.flatMap_cons]
            rw [List.getElem?_append_right (by rw [hE, Nat.succ_mul]; omega), hE]
            have e1 : (k + 1) * sz + i - sz = k * sz + i := by rw [Nat.succ_mul]; omega
            rw [e1]
            exact ih k (by simpa using hk)
      exact this l k hk
    have h2 := h.cells (g := g) rfl _ _ h1
    rw [add_none] at h2
    rw [show 0 + k * sz + i = 0 + (k * sz + i) by omega]
    exact h2

theorem run_append_none {P : Program} {w : World} (base : Nat) (t ty e : TypeId) (i : TypeInfo) (size : Nat) (ht : P.underlying t = some (.slice e)) (hi : P.info? e = some i)
    (v : Value) (n : Nat) (xs : List Value) (hown : w.ownsRow base e size v n xs) (A : Option Addr) (c : Nat) :
    (Builtin.append_ #[t, t] ty #[v, .slice A 0 c]).run P w = .ok v w := by
  rcases hown.2 with ⟨rfl, rfl⟩ | ⟨g, cap, cur, rfl, _, _, hnc, _⟩
  · cases A <;> simp [Builtin.append_, run_underlying ht, sizeOf, typeInfo, hi, Builtin.lenOf, Builtin.firstCells, loadCells, loadCellsFrom]
  · cases A <;> simp [Builtin.append_, run_underlying ht, sizeOf, typeInfo, hi, Builtin.lenOf, Builtin.firstCells, hnc, storeCells, loadCells, loadCellsFrom]

theorem own_made {w : World} {base : Nat} {e : TypeId} {size : Nat} {g : Nat} (hg : g = w.heap.size) (hb : base ≤ g) : (w.alloc (.cells #[] e)).ownsRow base e size (.slice (some ⟨g, 0, none⟩) 0 0) 0 [] := by
  subst hg
  exact World.ownsRow_made _ _ 0 hb (by decide) (by simp)
theorem own_some {w : World} {base : Nat} {e : TypeId} {sz : Nat} {v : Value} {n : Nat} {xs : List Value} (h : w.ownsRow base e sz v n xs) (hn : v ≠ .slice none 0 0) : ∃ g cap, v = .slice (some ⟨g, 0, none⟩) n cap ∧ base ≤ g ∧ g < w.heap.size := by
  rcases h.2 with ⟨rfl, _⟩ | ⟨g, cap, cur, rfl, hb, hg, _⟩
  · exact absurd rfl hn
  · exact ⟨g, cap, rfl, hb, (Array.getElem?_eq_some_iff.1 hg).1⟩
theorem own_mono {w : World} {base base' : Nat} {e : TypeId} {sz : Nat} {v : Value} {n : Nat} {xs : List Value} (h : w.ownsRow base e sz v n xs) (hb : base' ≤ base) : w.ownsRow base' e sz v n xs := by
  refine ⟨h.1, ?_⟩
  rcases h.2 with hn | ⟨g, cap, cur, rfl, hbg, rest⟩
  · exact .inl hn
  · exact .inr ⟨g, cap, cur, rfl, by omega, rest⟩
theorem own_set {w : World} {base : Nat} {e : TypeId} {sz : Nat} {v : Value} {n : Nat} {xs : List Value} (h : w.ownsRow base e sz v n xs) {p : Addr} (hne : v.ownBlock ≠ some p.block) (u : Value) : (w.setCell p u).ownsRow base e sz v n xs := by
  refine ⟨h.1, ?_⟩
  rcases h.2 with hn | ⟨g, cap, cur, rfl, hbg, hg, rest⟩
  · exact .inl hn
  · exact .inr ⟨g, cap, cur, rfl, hbg, (Below.heap_setCell w p u g (fun e => hne (by simp [Value.ownBlock, e]))).trans hg, rest⟩
theorem take_snoc {α : Type} {l r : List α} {k : Nat} {x : α} (h : l.drop k = x :: r) : l.take (k + 1) = l.take k ++ [x] := by
  have : l[k]? = some x := by rw [← List.head?_drop, h]; rfl
  rw [List.take_add_one, this]; rfl

/-- An append of a slice that is read (nil or not) to a list that the call owns. -/
theorem wpList_append_sl {P : Program} {w : World} {ops : Array Oper} {rest : List Oper} {o : Oper} {a : Act} {Q : Exit → Act → World → Prop} (hgd : o.guard = none) (s x : Operand) (t : TypeId)
    (ho : o.op = .call { callee := .builtin .append, args := #[s, x], argTypes := #[t, t] })
    (base : Nat) (e : TypeId) (i : TypeInfo) (z : Value) (size bytes : Nat) (ht : P.underlying t = some (.slice e)) (hi : P.info? e = some i) (hz : i.zero = some z)
    (hsize : i.size = size) (hby : i.bytes = bytes) (hzs : z.cells.size = size) (hsz : 0 < size)
    (v : Value) (n : Nat) (xs : List Value) (hs : a.eval s = v) (hown : w.ownsRow base e size v n xs)
    (A : Option Addr) (m c : Nat) (news : List Value) (hx : a.eval x = .slice A m c) (hl : news.length = m * size) (hnews : m = 0 ∨ ∃ ad, A = some ad ∧ ∀ j u, news[j]? = some u → w.cell? (ad.add j) = some u) (h1 : ∀ u ∈ news, u.oneCell' = true)
    (h63 : n + m ≤ maxLen) (hbytes : (n + m) * bytes ≤ 140737488355328) (hbase : base ≤ w.heap.size)
    (h : ∀ v' w', w'.ownsRow base e size v' (n + m) (xs ++ news) → w.grownBy w' v.ownBlock → (v' = .slice none 0 0 → v = .slice none 0 0) → wpList P ops Q rest (a.put o.dst v') w') : wpList P ops Q (o :: rest) a w := by
  rcases hnews with rfl | ⟨ad, rfl, hnews⟩
  · have hn : news = [] := List.eq_nil_of_length_eq_zero (by simpa using hl)
    subst hn
    refine wpList_plain hgd fun K hK => ?_
    have hrun := run_append_none (P := P) (w := w) base t o.type e i size ht hi v n xs hown A c
    unfold Oper.wp
    simp [execOp, ho, resolve, invoke, builtin, hs, hx, hrun, Result.andThen]
    have h2 := h v w (by simpa using hown) ⟨rfl, rfl, rfl, Nat.le_refl _, fun _ _ _ => rfl⟩ id
    exact hK _ _ h2
  · exact wpList_append_own w hgd s x t ho base e i z size bytes ht hi hz hsize hby hzs hsz v n xs hs hown ad m c news hx hl hnews h1 h63 hbytes hbase fun v' w' h2 h3 h4 => h v' w' h2 h3 fun e => (h4.1 e).1

def vecC (p : Vec) : List Value := [.int .i64 p.x, .int .i64 p.y]
def stnC (p : Stn) : List Value := [.int .i64 p.id, .int .i64 p.off.x, .int .i64 p.off.y]
def catC (p : Cat) : List Value := [.int .i64 p.version, .int .i64 p.lo, .int .i64 p.hi]
def intC (n : Int) : List Value := [.int .i64 n]

/-- The cells of a list that is read. -/
theorem sl_news {α : Type} {w : World} {sz : Nat} {A : Option Addr} {n : Nat} {l : List α} {E : α → List Value} {R : α → Nat → Nat → Prop} (hE : ∀ x, (E x).length = sz)
    (hR : ∀ x b o, R x b o → ∀ i u, (E x)[i]? = some u → w.cell? ⟨b, o + i, none⟩ = some u) (h : SlR sz R A n l) :
    n = 0 ∨ ∃ ad, A = some ad ∧ ∀ j u, (l.flatMap E)[j]? = some u → w.cell? (ad.add j) = some u := by
  rcases h.2.2 with h0 | ⟨b, off, rfl, hc⟩
  · exact .inl h0
  · refine .inr ⟨_, rfl, fun j u hj => ?_⟩
    rw [add_none]
    have : ∀ (l : List α) (off : Nat), (∀ k (h : k < l.length), R l[k] b (off + k * sz)) → ∀ j u, (l.flatMap E)[j]? = some u → w.cell? ⟨b, off + j, none⟩ = some u := by
      intro l
      induction l with
      | nil => intro off _ j u hj; simp at hj
      | cons a r ih =>
        intro off hc j u hj
        simp only [List.flatMap_cons] at hj
        by_cases hlt : j < sz
        · rw [List.getElem?_append_left (by rw [hE]; exact hlt)] at hj
          have := hc 0 (by simp)
          rw [Nat.zero_mul] at this
          exact hR _ _ _ this j u hj
        · rw [List.getElem?_append_right (by rw [hE]; omega), hE] at hj
          have := ih (off + sz) (fun k hk => by
            have := hc (k + 1) (by simpa using hk)
            rw [Nat.succ_mul] at this
            rw [show off + sz + k * sz = off + (k * sz + sz) by omega]
            exact this) _ _ hj
          rw [show off + sz + (j - sz) = off + j by omega] at this
          exact this
    exact this l off hc j u hj
theorem flat_len {α : Type} {sz : Nat} {E : α → List Value} (hE : ∀ x, (E x).length = sz) : ∀ l : List α, (l.flatMap E).length = l.length * sz
  | [] => by simp
  | a :: r => by simp only [List.flatMap_cons, List.length_append, hE, flat_len hE r, List.length_cons, Nat.succ_mul]; omega
theorem flat_one {α : Type} {E : α → List Value} (hE : ∀ x, ∀ u ∈ E x, u.oneCell' = true) (l : List α) : ∀ u ∈ l.flatMap E, u.oneCell' = true := by
  intro u hu
  obtain ⟨x, _, hx⟩ := List.mem_flatMap.1 hu
  exact hE x u hx
theorem vec_len (x : Vec) : (vecC x).length = 2 := rfl
theorem stn_len (x : Stn) : (stnC x).length = 3 := rfl
theorem cat_len (x : Cat) : (catC x).length = 3 := rfl
theorem vec_read (w : World) (x : Vec) (b o : Nat) (h : ∀ i u, (vecC x)[i]? = some u → w.cell? ⟨b, o + i, none⟩ = some u) : vecAt w x b o := ⟨h 0 _ rfl, h 1 _ rfl⟩
theorem stn_read (w : World) (x : Stn) (b o : Nat) (h : ∀ i u, (stnC x)[i]? = some u → w.cell? ⟨b, o + i, none⟩ = some u) : stnAt w x b o := ⟨h 0 _ rfl, h 1 _ rfl, h 2 _ rfl⟩
theorem cat_read (w : World) (x : Cat) (b o : Nat) (h : ∀ i u, (catC x)[i]? = some u → w.cell? ⟨b, o + i, none⟩ = some u) : catAt w x b o := ⟨h 0 _ rfl, h 1 _ rfl, h 2 _ rfl⟩
end Go.Proofs.YtfniicgoeljmdaaGreat
