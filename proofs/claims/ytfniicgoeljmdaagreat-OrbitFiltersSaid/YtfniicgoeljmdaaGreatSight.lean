/- What the look-ups of stations and catalogs compute. No condition. What the checks of sights compute, of the program and of the reference. No condition. -/
import Derived.Test.YtfniicgoeljmdaaGreatSky
namespace Go.Proofs.YtfniicgoeljmdaaGreat
open Go.RowKit

theorem idx_cases {α : Type} (p : α → Bool) (l : List α) : (idxFrom p l 0 = -1 ∧ l.find? p = none) ∨ ∃ (i : Nat) (x : α), i < l.length ∧ idxFrom p l 0 = i ∧ l[i]? = some x ∧ l.find? p = some x := by
  have h : ∀ (l : List α) (k : Nat), (idxFrom p l k = -1 ∧ l.find? p = none) ∨ ∃ (i : Nat) (x : α), i < l.length ∧ idxFrom p l k = ((k + i : Nat) : Int) ∧ l[i]? = some x ∧ l.find? p = some x := by
    intro l
    induction l with
    | nil => intro k; exact .inl ⟨rfl, rfl⟩
    | cons y r ih =>
      intro k
      cases hp : p y
      · rcases ih (k + 1) with ⟨h1, h2⟩ | ⟨i, x, h1, h2, h3, h4⟩
        · exact .inl ⟨by simp [idxFrom, hp, h1], by simp [hp, h2]⟩
        · exact .inr ⟨i + 1, x, by simp; omega, by simp only [idxFrom, hp]; simp [h2]; omega, by simpa using h3, by simp [hp, h4]⟩
      · exact .inr ⟨0, y, by simp, by simp [idxFrom, hp], rfl, by simp [hp]⟩
  rcases h l 0 with h | ⟨i, x, h1, h2, h3, h4⟩
  · exact .inl h
  · exact .inr ⟨i, x, h1, by simpa using h2, h3, h4⟩

theorem SlR.get {α : Type} {sz : Nat} {R : α → Nat → Nat → Prop} {A : Option Addr} {n : Nat} {l : List α} (h : SlR sz R A n l) {i : Nat} {x : α} (hx : l[i]? = some x) :
    i < n ∧ ∃ b off, A = some ⟨b, off, none⟩ ∧ R x b (off + i * sz) := by
  obtain ⟨hi, rfl⟩ := List.getElem?_eq_some_iff.1 hx
  obtain ⟨b, off, hA, hc⟩ := h.at_ (by omega)
  exact ⟨by rw [h.len]; exact hi, b, off, hA, hc i hi⟩


set_option maxHeartbeats 400000 in
theorem idxStn_c (A : Option Addr) (n c : Nat) (l : List Stn) (fid : Nat) (cap : Array Value) (p : Stn → Bool) (w : World) (hl : Stns w A n l)
    (hcall : ∀ (xs : Array Value) (W : World), (callFunc fid xs).run Tryz.prog W = .ok (.enter fid xs) W)
    (hf : ∀ x ∈ l, ∀ W, Ext w W → Calls Tryz.prog fid (#[.agg #[.int .i64 x.id, .int .i64 x.off.x, .int .i64 x.off.y]] ++ cap) W fun e w' => e = .returned (.bool (p x)) ∧ Ext W w') :
    Calls Tryz.prog 189 #[.slice A n c, .func (.func fid) #[] cap] w fun e w' => e = .returned (.int .i64 (idxFrom p l 0)) ∧ Ext w w' := by
  have hn := hl.le
  have Hf := Lib.hid hf
  clear hf
  go_enter Tryz.func189, Tryz.ntmps189
  go_wp2_with fail
  go_loopw [8] (fun i wr => ∃ k : Nat, k ≤ n ∧ i = .int .i64 k ∧ Hid (idxFrom p (l.drop k) k = idxFrom p l 0) ∧ Ext w wr) (fun i _ => n - (intOf i).toNat)
  case atStart => exact ⟨0, Nat.zero_le _, rfl, rfl, Ext.refl _⟩
  case round =>
    obtain ⟨k, hk, rfl, HI, hb⟩ := hrel
    by_cases hlt : k < n
    · obtain ⟨b, off, x, rfl, HD, hxm, hx⟩ := hl.one hlt
      obtain ⟨hx0, hx1, hx2⟩ := stnAt.ext hb hx
      go_wp2_with fail
      refine (Hf.out x hxm _ hb).mono ?_
      rintro e w1 ⟨rfl, h1⟩
      cases hp : p x
      · go_wp2_with fail
        go_roundw
        case rel => exact ⟨k + 1, by omega, by go_num, by have := HI.out; rw [HD.out] at this; simpa [Hid, idxFrom, hp] using this, hb.trans h1⟩
        case measure => simp [intOf]; omega
      · go_wp2_with fail
        go_ret
        exact ⟨ret_i (by have := HI.out; rw [HD.out] at this; simpa [idxFrom, hp] using this), hb.trans h1⟩
    · have : k = l.length := by have := hl.len; omega
      subst this
      go_wp2_with fail
      go_ret
      refine ⟨ret_i ?_, hb⟩
      have := HI.out
      simpa [idxFrom] using this


set_option maxHeartbeats 400000 in
theorem idxCat_c (A : Option Addr) (n c : Nat) (l : List Cat) (fid : Nat) (cap : Array Value) (p : Cat → Bool) (w : World) (hl : Cats w A n l)
    (hcall : ∀ (xs : Array Value) (W : World), (callFunc fid xs).run Tryz.prog W = .ok (.enter fid xs) W)
    (hf : ∀ x ∈ l, ∀ W, Ext w W → Calls Tryz.prog fid (#[.agg #[.int .i64 x.version, .int .i64 x.lo, .int .i64 x.hi]] ++ cap) W fun e w' => e = .returned (.bool (p x)) ∧ Ext W w') :
    Calls Tryz.prog 191 #[.slice A n c, .func (.func fid) #[] cap] w fun e w' => e = .returned (.int .i64 (idxFrom p l 0)) ∧ Ext w w' := by
  have hn := hl.le
  have Hf := Lib.hid hf
  clear hf
  go_enter Tryz.func191, Tryz.ntmps191
  go_wp2_with fail
  go_loopw [8] (fun i wr => ∃ k : Nat, k ≤ n ∧ i = .int .i64 k ∧ Hid (idxFrom p (l.drop k) k = idxFrom p l 0) ∧ Ext w wr) (fun i _ => n - (intOf i).toNat)
  case atStart => exact ⟨0, Nat.zero_le _, rfl, rfl, Ext.refl _⟩
  case round =>
    obtain ⟨k, hk, rfl, HI, hb⟩ := hrel
    by_cases hlt : k < n
    · obtain ⟨b, off, x, rfl, HD, hxm, hx⟩ := hl.one hlt
      obtain ⟨hx0, hx1, hx2⟩ := catAt.ext hb hx
      go_wp2_with fail
      refine (Hf.out x hxm _ hb).mono ?_
      rintro e w1 ⟨rfl, h1⟩
      cases hp : p x
      · go_wp2_with fail
        go_roundw
        case rel => exact ⟨k + 1, by omega, by go_num, by have := HI.out; rw [HD.out] at this; simpa [Hid, idxFrom, hp] using this, hb.trans h1⟩
        case measure => simp [intOf]; omega
      · go_wp2_with fail
        go_ret
        exact ⟨ret_i (by have := HI.out; rw [HD.out] at this; simpa [idxFrom, hp] using this), hb.trans h1⟩
    · have : k = l.length := by have := hl.len; omega
      subst this
      go_wp2_with fail
      go_ret
      refine ⟨ret_i ?_, hb⟩
      have := HI.out
      simpa [idxFrom] using this


set_option maxHeartbeats 400000 in
theorem station1_c (a x y id : Int) (b : Nat) (w : World) (hb : w.cell? ⟨b, 0, none⟩ = some (.int .i64 id)) :
    Calls Tryz.prog 190 #[.agg #[.int .i64 a, .int .i64 x, .int .i64 y], .pointer (some ⟨b, 0, none⟩)] w fun e w' => e = .returned (.bool (a == id)) ∧ Ext w w' := by
  have hlt := World.block_lt_of_cell? w _ hb
  go_enter Tryz.func190, Tryz.ntmps190
  go_wp2_with fail
  go_ret
  exact ⟨ret_b (by simp), Ext.alloc0 _ _⟩
set_option maxHeartbeats 400000 in
theorem catalog1_c (a x y id : Int) (b : Nat) (w : World) (hb : w.cell? ⟨b, 0, none⟩ = some (.int .i64 id)) :
    Calls Tryz.prog 192 #[.agg #[.int .i64 a, .int .i64 x, .int .i64 y], .pointer (some ⟨b, 0, none⟩)] w fun e w' => e = .returned (.bool (a == id)) ∧ Ext w w' := by
  have hlt := World.block_lt_of_cell? w _ hb
  go_enter Tryz.func192, Tryz.ntmps192
  go_wp2_with fail
  go_ret
  exact ⟨ret_b (by simp), Ext.alloc0 _ _⟩

def stnOf (l : List Stn) (id : Int) : Option Stn := l.find? fun x => x.id == id
def catOf (l : List Cat) (v : Int) : Option Cat := l.find? fun x => x.version == v

set_option maxHeartbeats 400000 in
theorem station_c (A1 : Option Addr) (n1 c1 : Nat) (home : Int) (A2 : Option Addr) (n2 c2 : Nat) (A3 : Option Addr) (n3 c3 : Nat) (id : Int) (l : List Stn) (w : World) (hl : Stns w A2 n2 l) :
    Calls Tryz.prog 153 #[.agg #[.slice A1 n1 c1, .int .i64 home, .slice A2 n2 c2, .slice A3 n3 c3], .int .i64 id] w fun e w' =>
      e = .returned (.tuple #[.agg #[.int .i64 ((stnOf l id).getD ⟨0, ⟨0, 0⟩⟩).id, .int .i64 ((stnOf l id).getD ⟨0, ⟨0, 0⟩⟩).off.x, .int .i64 ((stnOf l id).getD ⟨0, ⟨0, 0⟩⟩).off.y], .bool (stnOf l id).isSome]) ∧ Ext w w' := by
  have hn := hl.le
  rcases idx_cases (fun x : Stn => x.id == id) l with ⟨hi, hf⟩ | ⟨i, x, hi1, hi, hx, hf⟩
  · have Hi := Lib.hid hi; clear hi
    have Hf := Lib.hid hf; clear hf
    go_enter Tryz.func153, Tryz.ntmps153
    go_wp2_with fail
    refine (idxStn_c A2 n2 c2 l 190 #[.pointer (some ⟨w.heap.size + 1, 0, none⟩)] (fun x => x.id == id) _ (Stns.ext (by (repeat' (first | exact Ext.refl _ | assumption | apply Ext.alloc | apply Ext.drew | refine Ext.set ?_ (by dsimp only; omega) _ | refine Ext.trans ?_ (by assumption)))) hl) Tryz.call190 (fun x _ W hW => station1_c x.id x.off.x x.off.y id _ W (hW.cell (by go_simp)))).mono ?_
    rw [Hi.out]
    rintro e w1 ⟨rfl, h1⟩; obtain ⟨hc_w1, hf_w1, hz_w1⟩ := bcell h1; (repeat (first | rw [World.size_alloc] at hz_w1 | rw [World.size_drew] at hz_w1 | rw [World.size_setCell] at hz_w1)); have : w.heap.size < w1.heap.size := (by omega); have : w.heap.size + 1 < w1.heap.size := (by omega); have : w.heap.size + 2 < w1.heap.size := (by omega)
    go_wp2_with fail
    (try simp only [Exit.inBlock, Exit.then]); apply bodyPost_ret; (focus (simp only [results, Tryz.results153]; go_simp; try rfl)); rfl
    have h1 : stnOf l id = none := Hf.out
    rw [h1]
    exact ⟨rfl, by (repeat' (first | exact Ext.refl _ | assumption | apply Ext.alloc | apply Ext.drew | refine Ext.set ?_ (by dsimp only; omega) _ | refine Ext.trans ?_ (by assumption)))⟩
  · obtain ⟨hin, b, off, rfl, hc⟩ := hl.get hx
    have Hi := Lib.hid hi; clear hi
    have Hf := Lib.hid hf; clear hf
    have Hx := Lib.hid hx; clear hx
    go_enter Tryz.func153, Tryz.ntmps153
    go_wp2_with fail
    refine (idxStn_c _ n2 c2 l 190 #[.pointer (some ⟨w.heap.size + 1, 0, none⟩)] (fun x => x.id == id) _ (Stns.ext (by (repeat' (first | exact Ext.refl _ | assumption | apply Ext.alloc | apply Ext.drew | refine Ext.set ?_ (by dsimp only; omega) _ | refine Ext.trans ?_ (by assumption)))) hl) Tryz.call190 (fun x _ W hW => station1_c x.id x.off.x x.off.y id _ W (hW.cell (by go_simp)))).mono ?_
    rw [Hi.out]
    rintro e w1 ⟨rfl, h1⟩; obtain ⟨hc_w1, hf_w1, hz_w1⟩ := bcell h1; (repeat (first | rw [World.size_alloc] at hz_w1 | rw [World.size_drew] at hz_w1 | rw [World.size_setCell] at hz_w1)); have : w.heap.size < w1.heap.size := (by omega); have : w.heap.size + 1 < w1.heap.size := (by omega); have : w.heap.size + 2 < w1.heap.size := (by omega)
    obtain ⟨hx0, hx1, hx2⟩ := stnAt.ext (Ext.trans (by (repeat' (first | exact Ext.refl _ | assumption | apply Ext.alloc | apply Ext.drew | refine Ext.set ?_ (by dsimp only; omega) _ | refine Ext.trans ?_ (by assumption)))) h1) hc
    go_wp2_with fail
    (try simp only [Exit.inBlock, Exit.then]); apply bodyPost_ret; (focus (simp only [results, Tryz.results153]; go_simp; try rfl)); rfl
    have h1 : stnOf l id = some x := Hf.out
    rw [h1]
    exact ⟨rfl, by (repeat' (first | exact Ext.refl _ | assumption | apply Ext.alloc | apply Ext.drew | refine Ext.set ?_ (by dsimp only; omega) _ | refine Ext.trans ?_ (by assumption)))⟩

set_option maxHeartbeats 400000 in
theorem catalog_c (A1 : Option Addr) (n1 c1 : Nat) (home : Int) (A2 : Option Addr) (n2 c2 : Nat) (A3 : Option Addr) (n3 c3 : Nat) (id : Int) (l : List Cat) (w : World) (hl : Cats w A3 n3 l) :
    Calls Tryz.prog 154 #[.agg #[.slice A1 n1 c1, .int .i64 home, .slice A2 n2 c2, .slice A3 n3 c3], .int .i64 id] w fun e w' =>
      e = .returned (.tuple #[.agg #[.int .i64 ((catOf l id).getD ⟨0, 0, 0⟩).version, .int .i64 ((catOf l id).getD ⟨0, 0, 0⟩).lo, .int .i64 ((catOf l id).getD ⟨0, 0, 0⟩).hi], .bool (catOf l id).isSome]) ∧ Ext w w' := by
  have hn := hl.le
  rcases idx_cases (fun x : Cat => x.version == id) l with ⟨hi, hf⟩ | ⟨i, x, hi1, hi, hx, hf⟩
  · have Hi := Lib.hid hi; clear hi
    have Hf := Lib.hid hf; clear hf
    go_enter Tryz.func154, Tryz.ntmps154
    go_wp2_with fail
    refine (idxCat_c A3 n3 c3 l 192 #[.pointer (some ⟨w.heap.size + 1, 0, none⟩)] (fun x => x.version == id) _ (Cats.ext (by (repeat' (first | exact Ext.refl _ | assumption | apply Ext.alloc | apply Ext.drew | refine Ext.set ?_ (by dsimp only; omega) _ | refine Ext.trans ?_ (by assumption)))) hl) Tryz.call192 (fun x _ W hW => catalog1_c x.version x.lo x.hi id _ W (hW.cell (by go_simp)))).mono ?_
    rw [Hi.out]
    rintro e w1 ⟨rfl, h1⟩; obtain ⟨hc_w1, hf_w1, hz_w1⟩ := bcell h1; (repeat (first | rw [World.size_alloc] at hz_w1 | rw [World.size_drew] at hz_w1 | rw [World.size_setCell] at hz_w1)); have : w.heap.size < w1.heap.size := (by omega); have : w.heap.size + 1 < w1.heap.size := (by omega); have : w.heap.size + 2 < w1.heap.size := (by omega)
    go_wp2_with fail
    (try simp only [Exit.inBlock, Exit.then]); apply bodyPost_ret; (focus (simp only [results, Tryz.results154]; go_simp; try rfl)); rfl
    have h1 : catOf l id = none := Hf.out
    rw [h1]
    exact ⟨rfl, by (repeat' (first | exact Ext.refl _ | assumption | apply Ext.alloc | apply Ext.drew | refine Ext.set ?_ (by dsimp only; omega) _ | refine Ext.trans ?_ (by assumption)))⟩
  · obtain ⟨hin, b, off, rfl, hc⟩ := hl.get hx
    have Hi := Lib.hid hi; clear hi
    have Hf := Lib.hid hf; clear hf
    have Hx := Lib.hid hx; clear hx
    go_enter Tryz.func154, Tryz.ntmps154
    go_wp2_with fail
    refine (idxCat_c _ n3 c3 l 192 #[.pointer (some ⟨w.heap.size + 1, 0, none⟩)] (fun x => x.version == id) _ (Cats.ext (by (repeat' (first | exact Ext.refl _ | assumption | apply Ext.alloc | apply Ext.drew | refine Ext.set ?_ (by dsimp only; omega) _ | refine Ext.trans ?_ (by assumption)))) hl) Tryz.call192 (fun x _ W hW => catalog1_c x.version x.lo x.hi id _ W (hW.cell (by go_simp)))).mono ?_
    rw [Hi.out]
    rintro e w1 ⟨rfl, h1⟩; obtain ⟨hc_w1, hf_w1, hz_w1⟩ := bcell h1; (repeat (first | rw [World.size_alloc] at hz_w1 | rw [World.size_drew] at hz_w1 | rw [World.size_setCell] at hz_w1)); have : w.heap.size < w1.heap.size := (by omega); have : w.heap.size + 1 < w1.heap.size := (by omega); have : w.heap.size + 2 < w1.heap.size := (by omega)
    obtain ⟨hx0, hx1, hx2⟩ := catAt.ext (Ext.trans (by (repeat' (first | exact Ext.refl _ | assumption | apply Ext.alloc | apply Ext.drew | refine Ext.set ?_ (by dsimp only; omega) _ | refine Ext.trans ?_ (by assumption)))) h1) hc
    go_wp2_with fail
    (try simp only [Exit.inBlock, Exit.then]); apply bodyPost_ret; (focus (simp only [results, Tryz.results154]; go_simp; try rfl)); rfl
    have h1 : catOf l id = some x := Hf.out
    rw [h1]
    exact ⟨rfl, by (repeat' (first | exact Ext.refl _ | assumption | apply Ext.alloc | apply Ext.drew | refine Ext.set ?_ (by dsimp only; omega) _ | refine Ext.trans ?_ (by assumption)))⟩

set_option maxHeartbeats 400000 in
theorem refStation_c (A1 : Option Addr) (n1 c1 : Nat) (home : Int) (A2 : Option Addr) (n2 c2 : Nat) (A3 : Option Addr) (n3 c3 : Nat) (id : Int) (l : List Stn) (w : World) (hl : Stns w A2 n2 l) :
    Calls Tryz.prog 150 #[.agg #[.slice A1 n1 c1, .int .i64 home, .slice A2 n2 c2, .slice A3 n3 c3], .int .i64 id] w fun e w' =>
      e = .returned (.int .i64 (idxFrom (fun x : Stn => x.id == id) l 0)) ∧ Ext w w' := by
  have hn := hl.le
  go_enter Tryz.func150, Tryz.ntmps150
  go_wp2_with fail
  go_loopw [5] (fun i wr => ∃ k : Nat, k ≤ n2 ∧ i = .int .i64 k ∧ Hid (idxFrom (fun x : Stn => x.id == id) (l.drop k) k = idxFrom (fun x : Stn => x.id == id) l 0) ∧ Ext (w.alloc (.cells #[.slice A1 n1 c1, .int .i64 home, .slice A2 n2 c2, .slice A3 n3 c3] 53)) wr) (fun i _ => n2 - (intOf i).toNat)
  case atStart => exact ⟨0, Nat.zero_le _, rfl, rfl, Ext.refl _⟩
  case round =>
    obtain ⟨k, hk, rfl, HI, hb⟩ := hrel
    obtain ⟨hcb, hfb, hzb⟩ := bcell hb
    by_cases hlt : k < n2
    · obtain ⟨b, off, x, rfl, HD, hxm, hx⟩ := hl.one hlt
      obtain ⟨hx0, hx1, hx2⟩ := stnAt.ext (Ext.trans (Ext.alloc0 _ _) hb) hx
      have hi := HI.out; rw [HD.out] at hi
      cases hp : (x.id == id)
      · have hi' : idxFrom (fun x : Stn => x.id == id) (l.drop (k + 1)) (k + 1) = idxFrom (fun x : Stn => x.id == id) l 0 := by rw [← hi]; simp only [idxFrom, hp]; simp
        have Hi := Lib.hid hi'; clear hi hi'
        go_wp2_with fail
        go_roundw
        case rel => exact ⟨k + 1, by omega, by go_num, Hi, by (repeat' (first | exact Ext.refl _ | assumption | apply Ext.alloc | apply Ext.drew | refine Ext.set ?_ (by dsimp only; omega) _ | refine Ext.trans ?_ (by assumption)))⟩
        case measure => simp [intOf]; omega
      · have hi' : (k : Int) = idxFrom (fun x : Stn => x.id == id) l 0 := by rw [← hi]; simp only [idxFrom, hp]; simp
        have Hi := Lib.hid hi'; clear hi hi'
        go_wp2_with fail
        go_ret
        exact ⟨ret_i Hi.out, by (repeat' (first | exact Ext.refl _ | assumption | apply Ext.alloc | apply Ext.drew | refine Ext.set ?_ (by dsimp only; omega) _ | refine Ext.trans ?_ (by assumption)))⟩
    · have : k = n2 := by omega
      subst this
      have hi := HI.out; rw [hl.len, List.drop_length] at hi
      have Hi := Lib.hid hi; clear hi
      go_wp2_with fail
      go_ret
      exact ⟨ret_i Hi.out, by (repeat' (first | exact Ext.refl _ | assumption | apply Ext.alloc | apply Ext.drew | refine Ext.set ?_ (by dsimp only; omega) _ | refine Ext.trans ?_ (by assumption)))⟩

set_option maxHeartbeats 400000 in
theorem refCatalog_c (A1 : Option Addr) (n1 c1 : Nat) (home : Int) (A2 : Option Addr) (n2 c2 : Nat) (A3 : Option Addr) (n3 c3 : Nat) (id : Int) (l : List Cat) (w : World) (hl : Cats w A3 n3 l) :
    Calls Tryz.prog 219 #[.agg #[.slice A1 n1 c1, .int .i64 home, .slice A2 n2 c2, .slice A3 n3 c3], .int .i64 id] w fun e w' =>
      e = .returned (.int .i64 (idxFrom (fun x : Cat => x.version == id) l 0)) ∧ Ext w w' := by
  have hn := hl.le
  go_enter Tryz.func219, Tryz.ntmps219
  go_wp2_with fail
  go_loopw [5] (fun i wr => ∃ k : Nat, k ≤ n3 ∧ i = .int .i64 k ∧ Hid (idxFrom (fun x : Cat => x.version == id) (l.drop k) k = idxFrom (fun x : Cat => x.version == id) l 0) ∧ Ext (w.alloc (.cells #[.slice A1 n1 c1, .int .i64 home, .slice A2 n2 c2, .slice A3 n3 c3] 53)) wr) (fun i _ => n3 - (intOf i).toNat)
  case atStart => exact ⟨0, Nat.zero_le _, rfl, rfl, Ext.refl _⟩
  case round =>
    obtain ⟨k, hk, rfl, HI, hb⟩ := hrel
    obtain ⟨hcb, hfb, hzb⟩ := bcell hb
    by_cases hlt : k < n3
    · obtain ⟨b, off, x, rfl, HD, hxm, hx⟩ := hl.one hlt
      obtain ⟨hx0, hx1, hx2⟩ := catAt.ext (Ext.trans (Ext.alloc0 _ _) hb) hx
      have hi := HI.out; rw [HD.out] at hi
      cases hp : (x.version == id)
      · have hi' : idxFrom (fun x : Cat => x.version == id) (l.drop (k + 1)) (k + 1) = idxFrom (fun x : Cat => x.version == id) l 0 := by rw [← hi]; simp only [idxFrom, hp]; simp
        have Hi := Lib.hid hi'; clear hi hi'
        go_wp2_with fail
        go_roundw
        case rel => exact ⟨k + 1, by omega, by go_num, Hi, by (repeat' (first | exact Ext.refl _ | assumption | apply Ext.alloc | apply Ext.drew | refine Ext.set ?_ (by dsimp only; omega) _ | refine Ext.trans ?_ (by assumption)))⟩
        case measure => simp [intOf]; omega
      · have hi' : (k : Int) = idxFrom (fun x : Cat => x.version == id) l 0 := by rw [← hi]; simp only [idxFrom, hp]; simp
        have Hi := Lib.hid hi'; clear hi hi'
        go_wp2_with fail
        go_ret
        exact ⟨ret_i Hi.out, by (repeat' (first | exact Ext.refl _ | assumption | apply Ext.alloc | apply Ext.drew | refine Ext.set ?_ (by dsimp only; omega) _ | refine Ext.trans ?_ (by assumption)))⟩
    · have : k = n3 := by omega
      subst this
      have hi := HI.out; rw [hl.len, List.drop_length] at hi
      have Hi := Lib.hid hi; clear hi
      go_wp2_with fail
      go_ret
      exact ⟨ret_i Hi.out, by (repeat' (first | exact Ext.refl _ | assumption | apply Ext.alloc | apply Ext.drew | refine Ext.set ?_ (by dsimp only; omega) _ | refine Ext.trans ?_ (by assumption)))⟩

end Go.Proofs.YtfniicgoeljmdaaGreat

namespace Go.Proofs.YtfniicgoeljmdaaGreat
open Go.RowKit

def dirErr (x : Sight) : Bool := !near ⟨x.dx, x.dy⟩ 4096 || (x.dx == 0 && x.dy == 0) || !within x.err 0 500000
def sightErr (s : Sky) (x : Sight) : Int :=
  if x.kind < 1 ∨ 3 < x.kind then 4
  else if within x.tick 0 1073741824 = false then 2
  else if (stnOf s.stations x.station).isSome = false then 7
  else if x.kind = 2 then (if x.lo < 0 ∨ x.hi < x.lo ∨ 134217728 < x.hi then 2 else 0)
  else if (catOf s.catalogs x.catalog).isSome = false then 7
  else if dirErr x = true then 2
  else if x.kind = 3 then (if within x.hi 1 134217728 = false then 2 else 0)
  else 0
def sightErr2 (s : Sky) (x : Sight) : Int := if skyErr s ≠ 0 then skyErr s else sightErr s x

set_option maxRecDepth 4000 in
set_option maxHeartbeats 2000000 in
theorem CheckSight_c (A1 : Option Addr) (n1 c1 : Nat) (home : Int) (A2 : Option Addr) (n2 c2 : Nat) (A3 : Option Addr) (n3 c3 : Nat) (s : Sky) (kind st cat tick dx dy er lo hi : Int) (w : World) (hs : IsSky w A1 n1 home A2 n2 A3 n3 s) :
    Calls Tryz.prog 117 #[.agg #[.slice A1 n1 c1, .int .i64 home, .slice A2 n2 c2, .slice A3 n3 c3], .agg #[.int .i64 kind, .int .i64 st, .int .i64 cat, .int .i64 tick, .int .i64 dx, .int .i64 dy, .int .i64 er, .int .i64 lo, .int .i64 hi]] w fun e w' =>
      e = .returned (.int .i64 (sightErr2 s ⟨kind, st, cat, tick, dx, dy, er, lo, hi⟩)) ∧ Ext w w' := by
  go_enter Tryz.func117, Tryz.ntmps117
  go_wp2_with (first
    | (go_at_call 103; refine (Check_c _ _ _ _ _ _ _ _ _ _ s _ (IsSky.ext (by (repeat' (first | exact Ext.refl _ | assumption | apply Ext.alloc | apply Ext.drew | refine Ext.set ?_ (by dsimp only; omega) _ | refine Ext.trans ?_ (by assumption)))) hs)).mono ?_; rintro e w1 ⟨rfl, h1⟩; obtain ⟨hc_w1, hf_w1, hz_w1⟩ := bcell h1; (repeat (first | rw [World.size_alloc] at hz_w1 | rw [World.size_drew] at hz_w1 | rw [World.size_setCell] at hz_w1)); have : w.heap.size < w1.heap.size := (by omega); have : w.heap.size + 1 < w1.heap.size := (by omega))
    | (go_at_call 152; refine (within_c _ _ _ _).mono ?_; rintro e w' ⟨rfl, rfl⟩)
    | (go_at_call 118; refine (near_c _ _ _ _ (by omega) (by omega)).mono ?_; rintro e w1 ⟨rfl, h1⟩; obtain ⟨hc_w1, hf_w1, hz_w1⟩ := bcell h1; (repeat (first | rw [World.size_alloc] at hz_w1 | rw [World.size_drew] at hz_w1 | rw [World.size_setCell] at hz_w1)); have : w.heap.size < w1.heap.size := (by omega); have : w.heap.size + 1 < w1.heap.size := (by omega))
    | (go_at_call 153; refine (station_c _ _ _ _ _ _ _ _ _ _ _ s.stations _ (IsSky.ext (by (repeat' (first | exact Ext.refl _ | assumption | apply Ext.alloc | apply Ext.drew | refine Ext.set ?_ (by dsimp only; omega) _ | refine Ext.trans ?_ (by assumption)))) hs).stations).mono ?_; rintro e w1 ⟨rfl, h1⟩; obtain ⟨hc_w1, hf_w1, hz_w1⟩ := bcell h1; (repeat (first | rw [World.size_alloc] at hz_w1 | rw [World.size_drew] at hz_w1 | rw [World.size_setCell] at hz_w1)); have : w.heap.size < w1.heap.size := (by omega); have : w.heap.size + 1 < w1.heap.size := (by omega))
    | (go_at_call 154; refine (catalog_c _ _ _ _ _ _ _ _ _ _ _ s.catalogs _ (IsSky.ext (by (repeat' (first | exact Ext.refl _ | assumption | apply Ext.alloc | apply Ext.drew | refine Ext.set ?_ (by dsimp only; omega) _ | refine Ext.trans ?_ (by assumption)))) hs).catalogs).mono ?_; rintro e w1 ⟨rfl, h1⟩; obtain ⟨hc_w1, hf_w1, hz_w1⟩ := bcell h1; (repeat (first | rw [World.size_alloc] at hz_w1 | rw [World.size_drew] at hz_w1 | rw [World.size_setCell] at hz_w1)); have : w.heap.size < w1.heap.size := (by omega); have : w.heap.size + 1 < w1.heap.size := (by omega)))
  all_goals go_ret
  all_goals refine ⟨ret_i ?_, by (repeat' (first | exact Ext.refl _ | assumption | apply Ext.alloc | apply Ext.drew | refine Ext.set ?_ (by dsimp only; omega) _ | refine Ext.trans ?_ (by assumption)))⟩
  all_goals clear hs
  all_goals (first | (simp_all [sightErr2, sightErr, dirErr]; done) | (simp_all [sightErr2, sightErr]; omega))

theorem stn_neg (l : List Stn) (id : Int) : (idxFrom (fun x : Stn => x.id == id) l 0 < 0 → (stnOf l id).isSome = false) ∧ (0 ≤ idxFrom (fun x : Stn => x.id == id) l 0 → (stnOf l id).isSome = true) := by
  rcases idx_cases (fun x : Stn => x.id == id) l with ⟨h1, h2⟩ | ⟨i, x, _, h1, _, h2⟩
  · simp only [stnOf, h1, h2]; simp
  · simp only [stnOf, h1, h2]; simp
theorem cat_neg (l : List Cat) (id : Int) : (idxFrom (fun x : Cat => x.version == id) l 0 < 0 → (catOf l id).isSome = false) ∧ (0 ≤ idxFrom (fun x : Cat => x.version == id) l 0 → (catOf l id).isSome = true) := by
  rcases idx_cases (fun x : Cat => x.version == id) l with ⟨h1, h2⟩ | ⟨i, x, _, h1, _, h2⟩
  · simp only [catOf, h1, h2]; simp
  · simp only [catOf, h1, h2]; simp

set_option maxRecDepth 4000 in
set_option maxHeartbeats 2000000 in
theorem refSight_c (A1 : Option Addr) (n1 c1 : Nat) (home : Int) (A2 : Option Addr) (n2 c2 : Nat) (A3 : Option Addr) (n3 c3 : Nat) (s : Sky) (kind st cat tick dx dy er lo hi : Int) (w : World) (hs : IsSky w A1 n1 home A2 n2 A3 n3 s) :
    Calls Tryz.prog 187 #[.agg #[.slice A1 n1 c1, .int .i64 home, .slice A2 n2 c2, .slice A3 n3 c3], .agg #[.int .i64 kind, .int .i64 st, .int .i64 cat, .int .i64 tick, .int .i64 dx, .int .i64 dy, .int .i64 er, .int .i64 lo, .int .i64 hi]] w fun e w' =>
      e = .returned (.int .i64 (sightErr s ⟨kind, st, cat, tick, dx, dy, er, lo, hi⟩)) ∧ Ext w w' := by
  have H1 := Lib.hid (stn_neg s.stations st)
  have H2 := Lib.hid (cat_neg s.catalogs cat)
  go_enter Tryz.func187, Tryz.ntmps187
  go_wp2_with (first
    | (go_at_call 133; refine (between_c _ _ _ _).mono ?_; rintro e w' ⟨rfl, rfl⟩)
    | (go_at_call 150; refine (refStation_c _ _ _ _ _ _ _ _ _ _ _ s.stations _ (IsSky.ext (by (repeat' (first | exact Ext.refl _ | assumption | apply Ext.alloc | apply Ext.drew | refine Ext.set ?_ (by dsimp only; omega) _ | refine Ext.trans ?_ (by assumption)))) hs).stations).mono ?_; rintro e w1 ⟨rfl, h1⟩; obtain ⟨hc_w1, hf_w1, hz_w1⟩ := bcell h1; (repeat (first | rw [World.size_alloc] at hz_w1 | rw [World.size_drew] at hz_w1 | rw [World.size_setCell] at hz_w1)); have : w.heap.size < w1.heap.size := (by omega); have : w.heap.size + 1 < w1.heap.size := (by omega))
    | (go_at_call 219; refine (refCatalog_c _ _ _ _ _ _ _ _ _ _ _ s.catalogs _ (IsSky.ext (by (repeat' (first | exact Ext.refl _ | assumption | apply Ext.alloc | apply Ext.drew | refine Ext.set ?_ (by dsimp only; omega) _ | refine Ext.trans ?_ (by assumption)))) hs).catalogs).mono ?_; rintro e w1 ⟨rfl, h1⟩; obtain ⟨hc_w1, hf_w1, hz_w1⟩ := bcell h1; (repeat (first | rw [World.size_alloc] at hz_w1 | rw [World.size_drew] at hz_w1 | rw [World.size_setCell] at hz_w1)); have : w.heap.size < w1.heap.size := (by omega); have : w.heap.size + 1 < w1.heap.size := (by omega)))
  all_goals go_ret
  all_goals refine ⟨ret_i ?_, by (repeat' (first | exact Ext.refl _ | assumption | apply Ext.alloc | apply Ext.drew | refine Ext.set ?_ (by dsimp only; omega) _ | refine Ext.trans ?_ (by assumption)))⟩
  all_goals clear hs
  all_goals (have h1 := H1.out.1; have h2 := H2.out.1; have h3 := H1.out.2; have h4 := H2.out.2; clear H1 H2)
  all_goals first | (simp_all [sightErr, dirErr, near]; done) | (simp_all [sightErr]; omega)

set_option maxHeartbeats 400000 in
theorem refCheckSight_c (A1 : Option Addr) (n1 c1 : Nat) (home : Int) (A2 : Option Addr) (n2 c2 : Nat) (A3 : Option Addr) (n3 c3 : Nat) (s : Sky) (kind st cat tick dx dy er lo hi : Int) (w : World) (hs : IsSky w A1 n1 home A2 n2 A3 n3 s) :
    Calls Tryz.prog 148 #[.agg #[.slice A1 n1 c1, .int .i64 home, .slice A2 n2 c2, .slice A3 n3 c3], .agg #[.int .i64 kind, .int .i64 st, .int .i64 cat, .int .i64 tick, .int .i64 dx, .int .i64 dy, .int .i64 er, .int .i64 lo, .int .i64 hi]] w fun e w' =>
      e = .returned (.int .i64 (sightErr2 s ⟨kind, st, cat, tick, dx, dy, er, lo, hi⟩)) ∧ Ext w w' := by
  go_enter Tryz.func148, Tryz.ntmps148
  go_wp2_with (first
    | (go_at_call 112; refine (refCheck_c _ _ _ _ _ _ _ _ _ _ s _ (IsSky.ext (by (repeat' (first | exact Ext.refl _ | assumption | apply Ext.alloc | apply Ext.drew | refine Ext.set ?_ (by dsimp only; omega) _ | refine Ext.trans ?_ (by assumption)))) hs)).mono ?_; rintro e w1 ⟨rfl, h1⟩; obtain ⟨hc_w1, hf_w1, hz_w1⟩ := bcell h1; (repeat (first | rw [World.size_alloc] at hz_w1 | rw [World.size_drew] at hz_w1 | rw [World.size_setCell] at hz_w1)); have : w.heap.size < w1.heap.size := (by omega); have : w.heap.size + 1 < w1.heap.size := (by omega))
    | (go_at_call 187; refine (refSight_c _ _ _ _ _ _ _ _ _ _ s _ _ _ _ _ _ _ _ _ _ (IsSky.ext (by (repeat' (first | exact Ext.refl _ | assumption | apply Ext.alloc | apply Ext.drew | refine Ext.set ?_ (by dsimp only; omega) _ | refine Ext.trans ?_ (by assumption)))) hs)).mono ?_; rintro e w1 ⟨rfl, h1⟩; obtain ⟨hc_w1, hf_w1, hz_w1⟩ := bcell h1; (repeat (first | rw [World.size_alloc] at hz_w1 | rw [World.size_drew] at hz_w1 | rw [World.size_setCell] at hz_w1)); have : w.heap.size < w1.heap.size := (by omega); have : w.heap.size + 1 < w1.heap.size := (by omega)))
  all_goals go_ret
  all_goals refine ⟨ret_i ?_, by (repeat' (first | exact Ext.refl _ | assumption | apply Ext.alloc | apply Ext.drew | refine Ext.set ?_ (by dsimp only; omega) _ | refine Ext.trans ?_ (by assumption)))⟩
  all_goals (simp_all [sightErr2])
end Go.Proofs.YtfniicgoeljmdaaGreat
