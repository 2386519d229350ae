/- Where bodies and stations are, of the program and of the reference; skies that are equal. No condition. Worlds and skies that read as the same data are found equal. No condition. Whether something is so of all corners: the program. No condition. -/
import Derived.Test.YtfniicgoeljmdaaGreatCopySky
import Derived.RegionTactic
import Derived.Test.YtfniicgoeljmdaaGreatAwake
import Derived.Laws.EntriesVeiled
namespace Go.Proofs.YtfniicgoeljmdaaGreat
open Go.RowKit

def atM (l : List Body) (home body tick : Int) : Vec :=
  if wldErr ⟨l, home⟩ = 0 ∧ (0 ≤ body ∧ body < l.length) ∧ within tick 0 1073741824 = true then trackAt (l.getD body.toNat ⟨0, 0, []⟩).track tick else ⟨0, 0⟩
theorem atM_no {l : List Body} {home body tick : Int} (h : ¬ (wldErr ⟨l, home⟩ = 0 ∧ (0 ≤ body ∧ body < l.length) ∧ within tick 0 1073741824 = true)) : atM l home body tick = ⟨0, 0⟩ := if_neg h
theorem atM_yes {l : List Body} {home tick : Int} {k : Nat} {x : Body} (h : wldErr ⟨l, home⟩ = 0) (hx : l[k]? = some x) (ht : within tick 0 1073741824 = true) : atM l home k tick = trackAt x.track tick := by
  have hk : k < l.length := (List.getElem?_eq_some_iff.1 hx).1
  rw [atM, if_pos ⟨h, ⟨by omega, by omega⟩, ht⟩, Int.toNat_natCast, List.getD_eq_getElem?_getD, hx]
  rfl

set_option maxRecDepth 4000 in
set_option maxHeartbeats 1000000 in
theorem At_c (A : Option Addr) (n c : Nat) (home body tick : Int) (l : List Body) (w : World) (hl : Bodies w A n l) :
    Calls Tryz.prog 223 #[.agg #[.slice A n c, .int .i64 home], .int .i64 body, .int .i64 tick] w fun e w' => e = .returned (.agg #[.int .i64 (atM l home body tick).x, .int .i64 (atM l home body tick).y]) ∧ Ext w w' := by
  have hn := hl.le
  have hln := hl.len
  have HW := Lib.hid fun W (hW : Ext w W) => CheckWorld_c A n c home l W (Bodies.ext hW hl)
  by_cases h0 : wldErr ⟨l, home⟩ = 0
  · rw [h0] at HW
    by_cases hb : 0 ≤ body ∧ body < l.length
    · obtain ⟨k, rfl⟩ := Int.eq_ofNat_of_zero_le hb.1
      have hk : k < l.length := by omega
      have hx : l[k]? = some l[k] := List.getElem?_eq_getElem hk
      generalize l[k] = x at hx
      cases ht : within tick 0 1073741824
      · rw [atM_no (by simp [ht])]
        have Ht := Lib.hid ht
        have hkn : k < n := by omega
        clear h0 hx ht hln hl hb hk
        go_enter Tryz.func223, Tryz.ntmps223
        go_wp2_with fail
        refine (HW.out _ (by (repeat' (first | exact Ext.refl _ | assumption | apply Ext.alloc | apply Ext.drew | refine Ext.set ?_ (by dsimp only; omega) _ | refine Ext.trans ?_ (by assumption))))).mono ?_
        rintro e w1 ⟨rfl, h1⟩; obtain ⟨hc_w1, hf_w1, hz_w1⟩ := bcell h1; (repeat (first | rw [World.size_alloc] at hz_w1 | rw [World.size_drew] at hz_w1 | rw [World.size_setCell] at hz_w1)); have : w.heap.size < w1.heap.size := (by omega); have : w.heap.size + 1 < w1.heap.size := (by omega)
        go_wp2_with fail
        refine (within_c _ _ _ _).mono ?_
        rintro e w3 ⟨rfl, rfl⟩
        rw [Ht.out]
        go_wp2_with fail
        (try simp only [Exit.inBlock, Exit.then]); apply bodyPost_ret; (focus (simp only [results, Tryz.results223]; go_simp; try rfl)); rfl
        exact ⟨rfl, by (repeat' (first | exact Ext.refl _ | assumption | apply Ext.alloc | apply Ext.drew | refine Ext.set ?_ (by dsimp only; omega) _ | refine Ext.trans ?_ (by assumption)))⟩
      · rw [atM_yes h0 hx ht]
        have Ht := Lib.hid ht
        have hkn : k < n := by omega
        have hbd := body_ok ((wld_ok h0).2.2 x (List.mem_of_getElem? hx))
        have ht' := (within_iff _ _ _).1 ht
        obtain ⟨hin, b, off, rfl, hc⟩ := hl.get hx
        clear h0 hx ht hln hb hk hl
        go_enter Tryz.func223, Tryz.ntmps223
        go_wp2_with fail
        refine (HW.out _ (by (repeat' (first | exact Ext.refl _ | assumption | apply Ext.alloc | apply Ext.drew | refine Ext.set ?_ (by dsimp only; omega) _ | refine Ext.trans ?_ (by assumption))))).mono ?_
        rintro e w1 ⟨rfl, h1⟩; obtain ⟨hc_w1, hf_w1, hz_w1⟩ := bcell h1; (repeat (first | rw [World.size_alloc] at hz_w1 | rw [World.size_drew] at hz_w1 | rw [World.size_setCell] at hz_w1)); have : w.heap.size < w1.heap.size := (by omega); have : w.heap.size + 1 < w1.heap.size := (by omega)
        obtain ⟨hd0, hd1, A', n', c', hd2, hl'⟩ := bodyAt.ext (show Ext w w1 by (repeat' (first | exact Ext.refl _ | assumption | apply Ext.alloc | apply Ext.drew | refine Ext.set ?_ (by dsimp only; omega) _ | refine Ext.trans ?_ (by assumption)))) hc
        have hb0 := World.block_lt_of_cell? w1 _ hd0
        dsimp only at hb0
        have HT := Lib.hid fun W (hW : Ext w1 W) => trackat_c A' n' c' x.track tick W (Vecs.ext hW hl') hbd.1 ht'.1 ht'.2
        clear hl' hc hbd ht'
        go_wp2_with fail
        refine (within_c _ _ _ _).mono ?_
        rintro e w3 ⟨rfl, rfl⟩
        rw [Ht.out]
        go_wp2_with fail
        refine (HT.out _ (by (repeat' (first | exact Ext.refl _ | assumption | apply Ext.alloc | apply Ext.drew | refine Ext.set ?_ (by dsimp only; omega) _ | refine Ext.trans ?_ (by assumption))))).mono ?_
        rintro e w2 ⟨rfl, h2⟩; obtain ⟨hc_w2, hf_w2, hz_w2⟩ := bcell h2; (repeat (first | rw [World.size_alloc] at hz_w2 | rw [World.size_drew] at hz_w2 | rw [World.size_setCell] at hz_w2)); have : w.heap.size < w2.heap.size := (by omega); have : w.heap.size + 1 < w2.heap.size := (by omega)
        go_wp2_with fail
        (try simp only [Exit.inBlock, Exit.then]); apply bodyPost_ret; (focus (simp only [results, Tryz.results223]; go_simp; try rfl)); rfl
        exact ⟨rfl, by (repeat' (first | exact Ext.refl _ | assumption | apply Ext.alloc | apply Ext.drew | refine Ext.set ?_ (by dsimp only; omega) _ | refine Ext.trans ?_ (by assumption)))⟩
    · rw [atM_no (fun h => hb h.2.1)]
      clear h0
      by_cases hb0 : body < 0
      · clear hb hl hln
        go_enter Tryz.func223, Tryz.ntmps223
        go_wp2_with fail
        refine (HW.out _ (by (repeat' (first | exact Ext.refl _ | assumption | apply Ext.alloc | apply Ext.drew | refine Ext.set ?_ (by dsimp only; omega) _ | refine Ext.trans ?_ (by assumption))))).mono ?_
        rintro e w1 ⟨rfl, h1⟩; obtain ⟨hc_w1, hf_w1, hz_w1⟩ := bcell h1; (repeat (first | rw [World.size_alloc] at hz_w1 | rw [World.size_drew] at hz_w1 | rw [World.size_setCell] at hz_w1)); have : w.heap.size < w1.heap.size := (by omega); have : w.heap.size + 1 < w1.heap.size := (by omega)
        go_wp2_with fail
        (try simp only [Exit.inBlock, Exit.then]); apply bodyPost_ret; (focus (simp only [results, Tryz.results223]; go_simp; try rfl)); rfl
        exact ⟨rfl, by (repeat' (first | exact Ext.refl _ | assumption | apply Ext.alloc | apply Ext.drew | refine Ext.set ?_ (by dsimp only; omega) _ | refine Ext.trans ?_ (by assumption)))⟩
      · have hb1 : (n : Int) ≤ body := by omega
        have hb2 : 0 ≤ body := by omega
        clear hb hl hln hb0
        go_enter Tryz.func223, Tryz.ntmps223
        go_wp2_with fail
        refine (HW.out _ (by (repeat' (first | exact Ext.refl _ | assumption | apply Ext.alloc | apply Ext.drew | refine Ext.set ?_ (by dsimp only; omega) _ | refine Ext.trans ?_ (by assumption))))).mono ?_
        rintro e w1 ⟨rfl, h1⟩; obtain ⟨hc_w1, hf_w1, hz_w1⟩ := bcell h1; (repeat (first | rw [World.size_alloc] at hz_w1 | rw [World.size_drew] at hz_w1 | rw [World.size_setCell] at hz_w1)); have : w.heap.size < w1.heap.size := (by omega); have : w.heap.size + 1 < w1.heap.size := (by omega)
        go_wp2_with fail
        (try simp only [Exit.inBlock, Exit.then]); apply bodyPost_ret; (focus (simp only [results, Tryz.results223]; go_simp; try rfl)); rfl
        exact ⟨rfl, by (repeat' (first | exact Ext.refl _ | assumption | apply Ext.alloc | apply Ext.drew | refine Ext.set ?_ (by dsimp only; omega) _ | refine Ext.trans ?_ (by assumption)))⟩
  · rw [atM_no (fun h => h0 h.1)]
    have h0' : (wldErr ⟨l, home⟩ != 0) = true := by simpa using h0
    generalize wldErr ⟨l, home⟩ = M at *
    clear hl hln h0
    go_enter Tryz.func223, Tryz.ntmps223
    go_wp2_with fail
    refine (HW.out _ (by (repeat' (first | exact Ext.refl _ | assumption | apply Ext.alloc | apply Ext.drew | refine Ext.set ?_ (by dsimp only; omega) _ | refine Ext.trans ?_ (by assumption))))).mono ?_
    rintro e w1 ⟨rfl, h1⟩; obtain ⟨hc_w1, hf_w1, hz_w1⟩ := bcell h1; (repeat (first | rw [World.size_alloc] at hz_w1 | rw [World.size_drew] at hz_w1 | rw [World.size_setCell] at hz_w1)); have : w.heap.size < w1.heap.size := (by omega); have : w.heap.size + 1 < w1.heap.size := (by omega)
    go_wp2_with fail
    (try simp only [Exit.inBlock, Exit.then]); apply bodyPost_ret; (focus (simp only [results, Tryz.results223]; go_simp; try rfl)); rfl
    exact ⟨rfl, by (repeat' (first | exact Ext.refl _ | assumption | apply Ext.alloc | apply Ext.drew | refine Ext.set ?_ (by dsimp only; omega) _ | refine Ext.trans ?_ (by assumption)))⟩

end Go.Proofs.YtfniicgoeljmdaaGreat

namespace Go.Proofs.YtfniicgoeljmdaaGreat
open Go.RowKit

theorem name_world {Q : World → Prop} (w : World) (h : ∀ W, W = w → Q W) : Q w := h w rfl

end Go.Proofs.YtfniicgoeljmdaaGreat

namespace Go.Proofs.YtfniicgoeljmdaaGreat
open Go.RowKit Go.Shelf
attribute [local go_sem] Oper.semAt_some

theorem ownFrom_blk {β : Type} (B b : Nat) (T : TypeId) (f : β → Array Value) : OwnFrom B (fun s W => Blk W b T (f s)) := fun s X Y row hs hg hr => by
  refine (hg.block b hs.lt (fun e => ?_)).trans hs
  obtain ⟨_, o, ho, hc⟩ := hr b e.symm
  have hs' : X.heap[b]? = some (.cells (f s) T (0, 0)) := hs
  rw [hs'] at ho
  injection ho with ho
  rw [← ho] at hc
  cases hc
theorem ownFrom_ext {β : Type} {B : Nat} {w : World} (h : w.heap.size ≤ B) : OwnFrom B (fun (_ : β) W => Ext w W) := ownFrom_below (Nat.le_refl _) h

theorem Blk.put {W : World} {g : Nat} {t : TypeId} {cs : Array Value} {D : Nat} {o : Obj} (h : Blk W g t cs) (hne : g ≠ D) : Blk (W.putObj D o) g t cs := ((grownBy_putObj' W D o).block g h.lt (fun e => hne (by injection e))).trans h
theorem Ext.put {w W : World} {D : Nat} {o : Obj} (h : Ext w W) (hD : w.heap.size ≤ D) : Ext w (W.putObj D o) := grown_ext h (grownBy_putObj' W D o) fun k e => by injection e with e; omega

end Go.Proofs.YtfniicgoeljmdaaGreat
