/- Where bodies and stations are, of the program and of the reference; skies that are equal. No condition. Operations of a drawn region that are known by what holds of their values: appends, slices. No condition. A region that draws its order: effects in whatever order they allow, known by what holds of their values, then a tail. No condition. -/
import Derived.Test.YtfniicgoeljmdaaCopySky
import Derived.Test.YtfniicgoeljmdaaGenD
namespace Go.Proofs.Ytfniicgoeljmdaa
open Go.RowKit

def atM (l : List Body) (home body tick : Int) : Vec :=
  if wldErr ⟨l, home⟩ = 0 ∧ (0 ≤ body ∧ body < l.length) ∧ within tick 0 1073741824 = true then trackAt (l.getD body.toNat ⟨0, 0, []⟩).track tick else ⟨0, 0⟩
theorem atM_no {l : List Body} {home body tick : Int} (h : ¬ (wldErr ⟨l, home⟩ = 0 ∧ (0 ≤ body ∧ body < l.length) ∧ within tick 0 1073741824 = true)) : atM l home body tick = ⟨0, 0⟩ := if_neg h
theorem atM_yes {l : List Body} {home tick : Int} {k : Nat} {x : Body} (h : wldErr ⟨l, home⟩ = 0) (hx : l[k]? = some x) (ht : within tick 0 1073741824 = true) : atM l home k tick = trackAt x.track tick := by
  have hk : k < l.length := (List.getElem?_eq_some_iff.1 hx).1
  rw [atM, if_pos ⟨h, ⟨by omega, by omega⟩, ht⟩, Int.toNat_natCast, List.getD_eq_getElem?_getD, hx]
  rfl

set_option maxRecDepth 4000 in
set_option maxHeartbeats 1000000 in
theorem At_c (A : Option Addr) (n c : Nat) (home body tick : Int) (l : List Body) (w : World) (hl : Bodies w A n l) :
    Calls Try.prog 58 #[.agg #[.slice A n c, .int .i64 home], .int .i64 body, .int .i64 tick] w fun e w' => e = .returned (.agg #[.int .i64 (atM l home body tick).x, .int .i64 (atM l home body tick).y]) ∧ Ext w w' := by
  have hn := hl.le
  have hln := hl.len
  have HW := Lib.hid fun W (hW : Ext w W) => CheckWorld_c A n c home l W (Bodies.ext hW hl)
  by_cases h0 : wldErr ⟨l, home⟩ = 0
  · rw [h0] at HW
    by_cases hb : 0 ≤ body ∧ body < l.length
    · obtain ⟨k, rfl⟩ := Int.eq_ofNat_of_zero_le hb.1
      have hk : k < l.length := by omega
      have hx : l[k]? = some l[k] := List.getElem?_eq_getElem hk
      generalize l[k] = x at hx
      cases ht : within tick 0 1073741824
      · rw [atM_no (by simp [ht])]
        have Ht := Lib.hid ht
        have hkn : k < n := by omega
        clear h0 hx ht hln hl hb hk
        go_enter Try.func58, Try.ntmps58
        go_wp2_with fail
        refine (HW.out _ ext_by).mono ?_
        rintro e w1 ⟨rfl, h1⟩; obtain ⟨hc_w1, hf_w1, hz_w1⟩ := bcell h1; (try simp only [szA] at hz_w1); have : w.heap.size < w1.heap.size := (by omega); have : w.heap.size + 1 < w1.heap.size := (by omega)
        go_wp2_with fail
        refine (within_c _ _ _ _).mono ?_
        rintro e w3 ⟨rfl, rfl⟩
        rw [Ht.out]
        go_wp2_with fail
        (try simp only [Exit.inBlock, Exit.then]); apply bodyPost_ret; (focus (simp only [results, Try.results58]; go_simp; try rfl)); rfl
        exact ⟨rfl, ext_by⟩
      · rw [atM_yes h0 hx ht]
        have Ht := Lib.hid ht
        have hkn : k < n := by omega
        have hbd := body_ok ((wld_ok h0).2.2 x (List.mem_of_getElem? hx))
        have ht' := (within_iff _ _ _).1 ht
        obtain ⟨hin, b, off, rfl, hc⟩ := hl.get hx
        clear h0 hx ht hln hb hk hl
        go_enter Try.func58, Try.ntmps58
        go_wp2_with fail
        refine (HW.out _ ext_by).mono ?_
        rintro e w1 ⟨rfl, h1⟩; obtain ⟨hc_w1, hf_w1, hz_w1⟩ := bcell h1; (try simp only [szA] at hz_w1); have : w.heap.size < w1.heap.size := (by omega); have : w.heap.size + 1 < w1.heap.size := (by omega)
        obtain ⟨hd0, hd1, A', n', c', hd2, hl'⟩ := bodyAt.ext (show Ext w w1 by exact ext_by) hc
        have hb0 := World.block_lt_of_cell? w1 _ hd0
        dsimp only at hb0
        have HT := Lib.hid fun W (hW : Ext w1 W) => trackat_c A' n' c' x.track tick W (Vecs.ext hW hl') hbd.1 ht'.1 ht'.2
        clear hl' hc hbd ht'
        go_wp2_with fail
        refine (within_c _ _ _ _).mono ?_
        rintro e w3 ⟨rfl, rfl⟩
        rw [Ht.out]
        go_wp2_with fail
        refine (HT.out _ ext_by).mono ?_
        rintro e w2 ⟨rfl, h2⟩; obtain ⟨hc_w2, hf_w2, hz_w2⟩ := bcell h2; (try simp only [szA] at hz_w2); have : w.heap.size < w2.heap.size := (by omega); have : w.heap.size + 1 < w2.heap.size := (by omega)
        go_wp2_with fail
        (try simp only [Exit.inBlock, Exit.then]); apply bodyPost_ret; (focus (simp only [results, Try.results58]; go_simp; try rfl)); rfl
        exact ⟨rfl, ext_by⟩
    · rw [atM_no (fun h => hb h.2.1)]
      clear h0
      by_cases hb0 : body < 0
      · clear hb hl hln
        go_enter Try.func58, Try.ntmps58
        go_wp2_with fail
        refine (HW.out _ ext_by).mono ?_
        rintro e w1 ⟨rfl, h1⟩; obtain ⟨hc_w1, hf_w1, hz_w1⟩ := bcell h1; (try simp only [szA] at hz_w1); have : w.heap.size < w1.heap.size := (by omega); have : w.heap.size + 1 < w1.heap.size := (by omega)
        go_wp2_with fail
        (try simp only [Exit.inBlock, Exit.then]); apply bodyPost_ret; (focus (simp only [results, Try.results58]; go_simp; try rfl)); rfl
        exact ⟨rfl, ext_by⟩
      · have hb1 : (n : Int) ≤ body := by omega
        have hb2 : 0 ≤ body := by omega
        clear hb hl hln hb0
        go_enter Try.func58, Try.ntmps58
        go_wp2_with fail
        refine (HW.out _ ext_by).mono ?_
        rintro e w1 ⟨rfl, h1⟩; obtain ⟨hc_w1, hf_w1, hz_w1⟩ := bcell h1; (try simp only [szA] at hz_w1); have : w.heap.size < w1.heap.size := (by omega); have : w.heap.size + 1 < w1.heap.size := (by omega)
        go_wp2_with fail
        (try simp only [Exit.inBlock, Exit.then]); apply bodyPost_ret; (focus (simp only [results, Try.results58]; go_simp; try rfl)); rfl
        exact ⟨rfl, ext_by⟩
  · rw [atM_no (fun h => h0 h.1)]
    have h0' : (wldErr ⟨l, home⟩ != 0) = true := by simpa using h0
    generalize wldErr ⟨l, home⟩ = M at *
    clear hl hln h0
    go_enter Try.func58, Try.ntmps58
    go_wp2_with fail
    refine (HW.out _ ext_by).mono ?_
    rintro e w1 ⟨rfl, h1⟩; obtain ⟨hc_w1, hf_w1, hz_w1⟩ := bcell h1; (try simp only [szA] at hz_w1); have : w.heap.size < w1.heap.size := (by omega); have : w.heap.size + 1 < w1.heap.size := (by omega)
    go_wp2_with fail
    (try simp only [Exit.inBlock, Exit.then]); apply bodyPost_ret; (focus (simp only [results, Try.results58]; go_simp; try rfl)); rfl
    exact ⟨rfl, ext_by⟩

end Go.Proofs.Ytfniicgoeljmdaa

namespace Go.Proofs.Ytfniicgoeljmdaa
open Go.RowKit

section
variable {P : Program}
theorem runs_val {w : World} {o : Oper} {a : Act} {v : Value} {G : Value → World → Prop} (hrun : (execOp a.eval o).run P w = .ok (.value v) w) (h : G v w) : RunsTo P G ((execOp a.eval o).run P w) := by
  rw [hrun]; exact h
theorem runs_to {w w1 : World} {o : Oper} {a : Act} {v : Value} {G : Value → World → Prop} (hrun : (execOp a.eval o).run P w = .ok (.value v) w1) (h : G v w1) : RunsTo P G ((execOp a.eval o).run P w) := by
  rw [hrun]; exact h
theorem runs_call {w : World} {o : Oper} {a : Act} {f : FuncId} {args : Array Value} {G : Value → World → Prop} (hrun : (execOp a.eval o).run P w = .ok (.enter f args) w) (h : Calls P f args w fun e w' => ∃ v, e = .returned v ∧ G v w') : RunsTo P G ((execOp a.eval o).run P w) := by
  rw [hrun]; exact h
end
end Go.Proofs.Ytfniicgoeljmdaa

namespace Go.Proofs.Ytfniicgoeljmdaa
open Go.RowKit

section
variable {P : Program} {Q : Exit → Act → World → Prop} {S : World → Prop}
theorem rel_goT {l : List Oper} (sk : List SK) (es : List (SK × GT)) {F : World → Prop} {a' : Act} {T : List Oper} (hst : Stable F) (hFS : ∀ w, F w → S w) (hes : es.map (·.1) = sk) (hok : skOk l.toArray sk = true)
    (h1 : obF P l F es a' es) (hQ : ∀ val, TG P S Q T (putP l val (sk.map (·.j)) a') fun w => F w ∧ finF es val w es) : AD P l.toArray S Q T (sk.map (·.j)).length (sk.map (·.j)) a' F := by
  have hnd : (es.map (·.1.j)).Nodup := by
    have := hok
    simp only [skOk, Bool.and_eq_true, decide_eq_true_eq] at this
    have h2 := this.1.2
    rw [← hes, List.map_map] at h2
    exact h2
  have hs : ∀ s ∈ sk, ∃ g, (s, g) ∈ es ∧ getG es s.j = g := fun s hs => by
    rw [← hes] at hs
    obtain ⟨⟨s', g⟩, hm, rfl⟩ := List.mem_map.1 hs
    exact ⟨g, hm, getG_spec hnd hm⟩
  refine ad_rel sk (getG es) hok hst hFS (fun s hss => ?_) (fun s hss => ?_) (fun s hss val w hw hu => ?_) fun val => ?_
  · obtain ⟨g, hm, e⟩ := hs s hss
    rw [e]
    exact (obF_to h1 s g hm).1
  · obtain ⟨g, hm, e⟩ := hs s hss
    rw [e]
    exact fun val val' hv v w hg => (obF_to h1 s g hm).2.1 val val' v w (useEq_of hv) hg
  · obtain ⟨g, hm, e⟩ := hs s hss
    rw [e, putP_eq, ← pick1_eq]
    refine ((obF_to h1 s g hm).2.2 val w hw (useF_of hu)).mono fun v w1 h => ⟨h.1, ?_⟩
    have h2 := h.2
    cases hsp : s.spoil with
    | none => rw [hsp] at h2; exact h2
    | some lk =>
      obtain ⟨a, k⟩ := lk
      rw [hsp] at h2
      exact ⟨h2.1, keepF_to h2.2⟩
  · have h2 := hQ val
    rw [← putP_eq] at h2
    refine TG.mono _ (fun w hw => ⟨hw.1, finF_of fun s g hmem hall => ?_⟩) h2
    have hss : s ∈ sk := by rw [← hes]; exact List.mem_map.2 ⟨(s, g), hmem, rfl⟩
    have h3 := hw.2 s hss (by
      rw [← hes, List.all_map]
      exact hall)
    rw [getG_spec hnd hmem] at h3
    exact h3
theorem wp_region_relT {id : Nat} {l : List Oper} (Bd : List Nat) (sk : List SK) (es : List (SK × GT)) (Tl : List Nat) (S F : World → Prop) {a : Act} {w : World} (hst : Stable F) (hFS : ∀ w, F w → S w) (hS : F w.drew) (hm : P.follows .mixedOrders = true) (hes : es.map (·.1) = sk)
    (hok : (genD l.toArray Bd (sk.map (·.j)) Tl && skOk l.toArray sk) = true)
    (h : BL P l.toArray S (pick l Bd) a (fun a' => obF P l F es a' es ∧ ∀ val, TG P S Q (pick l Tl) (putP l val (sk.map (·.j)) a') fun w => F w ∧ finF es val w es)) : (Code.region id l.toArray true).wp P Q a w := by
  rw [Bool.and_eq_true] at hok
  have hgo : ∀ a', (obF P l F es a' es ∧ ∀ val, TG P S Q (pick l Tl) (putP l val (sk.map (·.j)) a') fun w => F w ∧ finF es val w es) → AD P l.toArray S Q (pick l Tl) (sk.map (·.j)).length (sk.map (·.j)) a' F := by
    intro a' ha'
    exact rel_goT sk es hst hFS hes hok.2 ha'.1 ha'.2
  have h2 : BL P l.toArray S (pick l Bd) a (fun a' => AD P l.toArray S Q (pick l Tl) (sk.map (·.j)).length (sk.map (·.j)) a' F) := BL.mono _ _ _ _ hgo h
  have h3 := hok.1
  clear hgo hok h
  generalize sk.map (·.j) = al at *
  exact wp_region_D Bd al Tl S F hst hFS hS hm h3 h2
end
end Go.Proofs.Ytfniicgoeljmdaa
