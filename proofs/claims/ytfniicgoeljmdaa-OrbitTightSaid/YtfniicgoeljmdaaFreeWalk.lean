/- A region that draws its order and only makes new blocks, walked in the text's order: the moves. No condition. -/
import Derived.Test.YtfniicgoeljmdaaFree
namespace Go.Proofs.Ytfniicgoeljmdaa
open Go.RowKit

abbrev Env := List (Nat × Option Tmp × (Value → World → Prop))
def putV (val : Nat → Value) : Env → Act → Act
  | [], a => a
  | p :: r, a => putV val r (a.put p.2.1 (val p.1))
section
variable {P : Program} {ops : Array Oper} {Q : Exit → Act → World → Prop} {S : World → Prop}
def seesE (ops : Array Oper) (n : Nat) (env : Env) : Env := env.filter fun p => seesB ops n p.1
def Obl (P : Program) (ops : Array Oper) (S : World → Prop) (n : Nat) (env : Env) (a : Act) (g : Value → World → Prop) (o : Oper) : Prop :=
  ∀ val w, S w → (∀ p ∈ seesE ops n env, p.2.2 (val p.1) w) → Does P ops o (putV val (seesE ops n env) a) w g
def FB (P : Program) (ops : Array Oper) (S : World → Prop) (K : Env → Act → Prop) : List Oper → Nat → Env → Act → Prop
  | [], _, env, a => K env a
  | o :: r, n, env, a => (∃ v, Obl P ops S n env a (fun u _ => u = v) o ∧ FB P ops S K r (n + 1) env (a.put o.dst v)) ∨
      (∃ g : Value → World → Prop, (∀ v, Stable (g v)) ∧ Obl P ops S n env a g o ∧ FB P ops S K r (n + 1) ((n, o.dst, g) :: env) a)

theorem putV_eq (val : Nat → Value) : ∀ (env : Env) (a : Act), (∀ p ∈ env, p.2.1 = (opAt ops p.1).dst) → putV val env a = putL ops val (env.map (·.1)) a
  | [], _, _ => rfl
  | p :: r, a, h => by
    have e : putL ops val ((p :: r).map (·.1)) a = putL ops val (r.map (·.1)) (a.put (opAt ops p.1).dst (val p.1)) := rfl
    rw [e, ← h p (by simp), putV]
    exact putV_eq val r _ fun q hq => h q (by simp [hq])
theorem FB.collect {K : Env → Act → Prop} {a0 : Act} (hok : freeOk ops = true) : ∀ (l : List Oper) (n : Nat) (env : Env) (fx : List Nat) (vf : Nat → Value) (G0 : GR), l = ops.toList.drop n → n + l.length = ops.size →
    (fx ++ env.map (·.1)).Perm (List.range n) → (∀ i ∈ fx, G0 i = fun u _ => u = vf i) → (∀ p ∈ env, G0 p.1 = p.2.2 ∧ (∀ v, Stable (p.2.2 v)) ∧ p.2.1 = (opAt ops p.1).dst) →
    FB P ops S K l n env (putL ops vf fx a0) →
    ∃ (G : GR) (env' : Env) (fx' : List Nat) (vf' : Nat → Value), (∀ i, i < n → G i = G0 i) ∧ (∀ j, n ≤ j → j < ops.size → ∀ val w, S w → (∀ d ∈ seenL ops j, G d (val d) w) → Does P ops (opAt ops j) (putL ops val (seenL ops j) a0) w (G j)) ∧
      (fx' ++ env'.map (·.1)).Perm (List.range ops.size) ∧ (∀ i ∈ fx', G i = fun u _ => u = vf' i) ∧ (∀ p ∈ env', G p.1 = p.2.2 ∧ (∀ v, Stable (p.2.2 v)) ∧ p.2.1 = (opAt ops p.1).dst) ∧ K env' (putL ops vf' fx' a0)
  | [], n, env, fx, vf, G0, _, hn, hp, hf, he, h => by
    have : n = ops.size := by simpa using hn
    subst this
    exact ⟨G0, env, fx, vf, fun _ _ => rfl, fun j h1 h2 => by omega, hp, hf, he, h⟩
  | o :: r, n, env, fx, vf, G0, hl, hn, hp, hf, he, h => by
    have hnl : n < ops.size := by simp at hn; omega
    have hon : opAt ops n = o := by
      have h1 : ops.toList[n]? = some o := by
        have := congrArg List.head? hl
        rw [List.head?_drop] at this
        simpa using this.symm
      unfold opAt
      rw [Array.getD_eq_getD_getElem?, ← Array.getElem?_toList, h1]
      rfl
    have hr : r = ops.toList.drop (n + 1) := by
      have := congrArg List.tail hl
      rw [List.tail_drop] at this
      simpa using this
    have hfx : ∀ i ∈ fx, i < n := fun i hi => List.mem_range.1 (hp.mem_iff.1 (by simp [hi]))
    have hek : ∀ p ∈ env, p.1 < n := fun p hp' => List.mem_range.1 (hp.mem_iff.1 (by
      rw [List.mem_append]; exact .inr (List.mem_map.2 ⟨p, hp', rfl⟩)))
    have hnd : (fx ++ env.map (·.1)).Nodup := hp.nodup_iff.2 List.nodup_range
    -- what the obligation of n says of the true act
    have key : ∀ (g : Value → World → Prop) (G : GR), (∀ i, i < n → G i = G0 i) → Obl P ops S n env (putL ops vf fx a0) g o → ∀ val w, S w → (∀ d ∈ seenL ops n, G d (val d) w) → Does P ops (opAt ops n) (putL ops val (seenL ops n) a0) w g := by
      intro g G hG hob val w hS hu
      have hval : ∀ d ∈ seenL ops n, d ∈ fx → val d = vf d := fun d hd hdf => by
        have h1 := hu d hd
        rw [hG d (hfx d hdf), hf d hdf] at h1
        exact h1
      have hU : ∀ p ∈ seesE ops n env, p.1 ∈ seenL ops n ∧ p ∈ env := fun p hp' => by
        obtain ⟨h1, h2⟩ := List.mem_filter.1 hp'
        exact ⟨List.mem_filter.2 ⟨List.mem_range.2 (hek p h1), h2⟩, h1⟩
      have hob' : ∀ val w, S w → (∀ p ∈ seesE ops n env, p.2.2 (val p.1) w) → Does P ops o (putL ops val ((seesE ops n env).map (·.1)) (putL ops vf fx a0)) w g := fun val w hS hu => by
        rw [← putV_eq val (seesE ops n env) _ fun p hp' => (he p (List.mem_filter.1 hp').1).2.2]
        exact hob val w hS hu
      have hd := hob' val w hS fun p hp' => by
        obtain ⟨h1, h2⟩ := hU p hp'
        have h3 := hu p.1 h1
        rw [hG _ (hek p h2), (he p h2).1] at h3
        exact h3
      obtain ⟨val', hv'⟩ : ∃ v : Nat → Value, v = fun i => if i ∈ fx then vf i else val i := ⟨_, rfl⟩
      have e1 : putL ops vf fx a0 = putL ops val' fx a0 := putL_congr fx a0 fun i hi => by rw [hv']; simp [hi]
      have hkn : ∀ p ∈ env, p.1 ∉ fx := fun p hp' hx => (List.nodup_append.1 hnd).2.2 p.1 hx p.1 (List.mem_map.2 ⟨p, hp', rfl⟩) rfl
      have e2 : putL ops val ((seesE ops n env).map (·.1)) (putL ops val' fx a0) = putL ops val' ((seesE ops n env).map (·.1)) (putL ops val' fx a0) := putL_congr _ _ fun i hi => by
        obtain ⟨p, hp', rfl⟩ := List.mem_map.1 hi
        rw [hv']; simp [hkn p (hU p hp').2]
      have e3 : putL ops val (seenL ops n) a0 = putL ops val' (seenL ops n) a0 := putL_congr _ _ fun i hi => by
        rw [hv']
        by_cases hx : i ∈ fx
        · simp [hx, hval i hi hx]
        · simp [hx]
      have hrn : ∀ i ∈ List.range n, i < ops.size := fun i hi => by have := List.mem_range.1 hi; omega
      -- the whole act
      have w1 := same_putL hok (j := n) val' ((env.filter fun p => !seesB ops n p.1).map (·.1)) (putL ops val' ((seesE ops n env).map (·.1)) (putL ops val' fx a0)) fun i hi => by
        obtain ⟨p, hp', rfl⟩ := List.mem_map.1 hi
        have := (List.mem_filter.1 hp').2
        simpa using this
      have w2 := same_putL hok (j := n) val' ((List.range n).filter fun i => !seesB ops n i) (putL ops val' (seenL ops n) a0) fun i hi => by
        have := (List.mem_filter.1 hi).2
        simpa using this
      have q1 : ((fx ++ (seesE ops n env).map (·.1)) ++ (env.filter fun p => !seesB ops n p.1).map (·.1)).Perm (List.range n) := by
        refine List.Perm.trans ?_ hp
        rw [List.append_assoc, ← List.map_append]
        exact List.Perm.append_left fx ((List.filter_append_perm _ env).map _)
      rw [List.append_assoc] at q1
      have q2 : (seenL ops n ++ (List.range n).filter fun i => !seesB ops n i).Perm (List.range n) := List.filter_append_perm _ _
      rw [← putL_app, ← putL_app, putL_perm hok val' a0 (fun i hi => hrn i (q1.mem_iff.1 hi)) q1] at w1
      rw [← putL_app, putL_perm hok val' a0 (fun i hi => hrn i (q2.mem_iff.1 hi)) q2] at w2
      rw [e3, hon]
      rw [hon] at w1 w2
      rw [e1, e2] at hd
      exact hd.of_same (w2.1.symm.trans w1.1) (w2.2.symm.trans w1.2)
    rcases h with ⟨v, hob, hrest⟩ | ⟨g, hst, hob, hrest⟩
    · have hput : (putL ops vf fx a0).put o.dst v = putL ops (fun i => if i = n then v else vf i) (fx ++ [n]) a0 := by
        rw [putL_app]
        have : putL ops (fun i => if i = n then v else vf i) [n] (putL ops (fun i => if i = n then v else vf i) fx a0) = (putL ops (fun i => if i = n then v else vf i) fx a0).put (opAt ops n).dst (if n = n then v else vf n) := rfl
        rw [this, if_pos rfl, hon]
        congr 1
        exact putL_congr fx a0 fun i hi => by have := hfx i hi; rw [if_neg (by omega)]
      rw [hput] at hrest
      obtain ⟨G, env', fx', vf', g1, g2, g3, g4, g5, g6⟩ := FB.collect hok r (n + 1) env (fx ++ [n]) (fun i => if i = n then v else vf i) (fun i => if i = n then (fun u _ => u = v) else G0 i) hr (by simp at hn ⊢; omega)
        (by rw [List.range_succ]; refine List.Perm.trans ?_ (List.Perm.append_right [n] hp); rw [List.append_assoc, List.append_assoc]; exact List.Perm.append_left fx List.perm_append_comm)
        (fun i hi => by
          rcases List.mem_append.1 hi with h1 | h1
          · have := hfx i h1
            rw [if_neg (by omega), if_neg (by omega)]; exact hf i h1
          · simp at h1; subst h1; rw [if_pos rfl, if_pos rfl])
        (fun p hp' => by have := hek p hp'; rw [if_neg (by omega)]; exact he p hp') hrest
      refine ⟨G, env', fx', vf', fun i hi => by rw [g1 i (by omega), if_neg (by omega)], fun j hj hjs => ?_, g3, g4, g5, g6⟩
      by_cases hjn : j = n
      · subst hjn
        rw [g1 j (by omega), if_pos rfl]
        exact key _ G (fun i hi => by rw [g1 i (by omega), if_neg (by omega)]) hob
      · exact g2 j (by omega) hjs
    · obtain ⟨G, env', fx', vf', g1, g2, g3, g4, g5, g6⟩ := FB.collect hok r (n + 1) ((n, o.dst, g) :: env) fx vf (fun i => if i = n then g else G0 i) hr (by simp at hn ⊢; omega)
        (by rw [List.range_succ]; refine List.Perm.trans ?_ (List.Perm.append_right [n] hp); rw [List.map_cons, List.append_assoc]; exact List.Perm.append_left fx (List.perm_append_comm (l₁ := [n])))
        (fun i hi => by have := hfx i hi; rw [if_neg (by omega)]; exact hf i hi)
        (fun p hp' => by
          rcases List.mem_cons.1 hp' with rfl | hp'
          · exact ⟨if_pos rfl, hst, by rw [hon]⟩
          · have := hek p hp'; rw [if_neg (by omega)]; exact he p hp') hrest
      refine ⟨G, env', fx', vf', fun i hi => by rw [g1 i (by omega), if_neg (by omega)], fun j hj hjs => ?_, g3, g4, g5, g6⟩
      by_cases hjn : j = n
      · subst hjn
        rw [g1 j (by omega), if_pos rfl]
        exact key _ G (fun i hi => by rw [g1 i (by omega), if_neg (by omega)]) hob
      · exact g2 j (by omega) hjs

theorem wp_region_free {id : Nat} {l : List Oper} {a : Act} {w : World} (hm : P.follows .mixedOrders = true) (hok : freeOk l.toArray = true)
    (h : FB P l.toArray (Ext w) (fun env a' => ∀ val w', Ext w w' → (∀ p ∈ env, p.2.2 (val p.1) w') → Q .normal (putV val env a') w') l 0 [] a) : (Code.region id l.toArray true).wp P Q a w := by
  obtain ⟨G, env', fx', vf', g1, g2, g3, g4, g5, g6⟩ := FB.collect (a0 := a) hok l 0 [] [] (fun _ => undef) (fun _ _ _ => True) (by simp) (by simp) (by simp) (by intro i hi; cases hi) (by intro p hp; cases hp) h
  refine wp_region_any hm ?_
  have hsz : l.toArray.size = l.length := by simp
  have hG : ∀ j, j < l.toArray.size → ∀ v, Stable (G j v) := fun j hj v => by
    have := g3.mem_iff.2 (List.mem_range.2 hj)
    rcases List.mem_append.1 this with h1 | h1
    · rw [g4 j h1]; exact fun _ _ h _ => h
    · obtain ⟨p, hp, rfl⟩ := List.mem_map.1 h1
      rw [(g5 p hp).1]; exact (g5 p hp).2.1 v
  obtain ⟨G', hG'⟩ : ∃ G' : GR, G' = fun j => if j < l.toArray.size then G j else fun _ _ => True := ⟨_, rfl⟩
  have hGe : ∀ j, j < l.toArray.size → G' j = G j := fun j hj => by simp only [hG', if_pos hj]
  have hseen : ∀ j, j < l.toArray.size → ∀ d ∈ seenL l.toArray j, d < l.toArray.size := fun j hj d hd => by
    have := List.mem_range.1 (List.mem_filter.1 hd).1
    omega
  have main := wpAny_free (P := P) (Q := Q) (S := Ext w) hok G' (Stable.ext w) (fun j v => by
      by_cases hj : j < l.toArray.size
      · rw [hGe j hj]; exact hG j hj v
      · simp only [hG', if_neg hj]; exact fun _ _ _ _ => trivial) (a0 := a)
    (fun j hj val w' hS hu => by
      rw [hGe j hj]
      exact g2 j (Nat.zero_le _) hj val w' hS fun d hd => by rw [← hGe d (hseen j hj d hd)]; exact hu d hd)
    (fun val w' hS hall => by
      have hp : ∀ r ∈ fx' ++ env'.map (·.1), r < l.toArray.size := fun r hr => List.mem_range.1 (g3.mem_iff.1 hr)
      rw [← putL_perm hok val a hp g3, putL_app]
      have e1 : putL l.toArray val fx' a = putL l.toArray vf' fx' a := putL_congr fx' a fun i hi => by
        have h1 := hall i (hp i (by simp [hi]))
        rw [hGe i (hp i (by simp [hi])), g4 i hi] at h1
        exact h1
      rw [e1, ← putV_eq val env' _ fun p hp' => (g5 p hp').2.2]
      refine g6 val w' hS fun p hp' => ?_
      have hlt : p.1 < l.toArray.size := hp p.1 (by rw [List.mem_append]; exact .inr (List.mem_map.2 ⟨p, hp', rfl⟩))
      have h1 := hall p.1 hlt
      rw [hGe _ hlt, (g5 p hp').1] at h1
      exact h1)
    l.toArray.size [] (List.range l.toArray.size) (fun _ => undef) (Array.replicate l.toArray.size false) { w with drawn := w.drawn + 1 } (by simp) (by simp) (by simp) (fun i hi => by simp at hi; simp [hi]) (Ext.drew (Ext.refl _)) (by intro d hd; cases hd)
  exact main

variable {K : Env → Act → Prop} {o : Oper} {r : List Oper} {n : Nat} {env : Env} {a : Act}
theorem fb_nil (h : K env a) : FB P ops S K [] n env a := h
theorem Gives.to {w : World} {v : Value} {r : Result Next} (h : Gives P w v r) : RunsTo P (fun u w1 => u = v ∧ Ext w w1) r := by
  cases r with
  | ok m w' =>
    cases m <;> simp only [Gives, RunsTo] at h ⊢
    case value u => exact h
    case skip => exact ⟨h.1.symm, h.2⟩
    case enter f args => exact h.mono fun e w'' ⟨he, hw⟩ => ⟨v, he, rfl, hw⟩
  | halt x w' => exact h.elim
theorem fb_op {v : Value} (hU : seesE ops n env = []) (hw : Region.wanted o (yielded ops a.tmps) = true) (h : ∀ w, S w → Gives P w v ((execOp a.eval o).run P w)) (hr : FB P ops S K r (n + 1) env (a.put o.dst v)) : FB P ops S K (o :: r) n env a :=
  .inl ⟨v, fun val w hS _ => .inl (by rw [hU]; exact ⟨hw, (h w hS).to⟩), hr⟩
theorem fb_eff (g : Value → World → Prop) (hst : ∀ v, Stable (g v)) (hU : seesE ops n env = []) (hw : Region.wanted o (yielded ops a.tmps) = true) (h : ∀ w, S w → RunsTo P (fun v w1 => g v w1 ∧ Ext w w1) ((execOp a.eval o).run P w))
    (hr : FB P ops S K r (n + 1) ((n, o.dst, g) :: env) a) : FB P ops S K (o :: r) n env a :=
  .inr ⟨g, hst, fun val w hS _ => .inl (by rw [hU]; exact ⟨hw, h w hS⟩), hr⟩
theorem fb_use_eff {d : Nat} {t : Option Tmp} {g : Value → World → Prop} (g' : Value → World → Prop) (hst : ∀ v, Stable (g' v)) (hU : seesE ops n env = [(d, t, g)]) (hw : ∀ u, Region.wanted o (yielded ops (a.put t u).tmps) = true)
    (h : ∀ u w, S w → g u w → RunsTo P (fun v w1 => g' v w1 ∧ Ext w w1) ((execOp (a.put t u).eval o).run P w)) (hr : FB P ops S K r (n + 1) ((n, o.dst, g') :: env) a) : FB P ops S K (o :: r) n env a :=
  .inr ⟨g', hst, fun val w hS hg => by
    have h1 := hg
    rw [hU] at h1
    have h2 := h1 (d, t, g) (by simp)
    refine .inl ?_
    rw [hU]
    exact ⟨hw (val d), h (val d) w hS h2⟩, hr⟩
def SliceIs (m c : Nat) (t : TypeId) (cs : Array Value) (v : Value) (w : World) : Prop := ∃ b, v = .slice (some ⟨b, 0, none⟩) m c ∧ Blk w b t cs
theorem SliceIs.stable (m c : Nat) (t : TypeId) (cs : Array Value) (v : Value) : Stable (SliceIs m c t cs v) := fun _ _ ⟨b, h1, h2⟩ e => ⟨b, h1, h2.ext e⟩
theorem fb_slice {m c : Nat} {t : TypeId} {cs : Array Value} (hU : seesE ops n env = []) (hw : Region.wanted o (yielded ops a.tmps) = true)
    (h : ∀ w, S w → (execOp a.eval o).run P w = .ok (.value (.slice (some ⟨w.heap.size, 0, none⟩) m c)) (w.alloc (.cells cs t)))
    (hr : FB P ops S K r (n + 1) ((n, o.dst, SliceIs m c t cs) :: env) a) : FB P ops S K (o :: r) n env a :=
  fb_eff _ (SliceIs.stable m c t cs) hU hw (fun w hS => by rw [h w hS]; exact ⟨⟨_, rfl, Blk.newAt rfl⟩, Ext.alloc0 _ _⟩) hr
end
end Go.Proofs.Ytfniicgoeljmdaa
