/- Sets of boxes that the call itself makes; sets that are equal; copies. No condition. A copy of a list of numbers: slices.Clone. No condition. -/
import Derived.Test.YtiladlangkjoiaaGreatPushLaw
import Derived.Scope
import Derived.LoopN
import Derived.Test.YtiladlangkjoiaaGreatOwnInts
namespace Go.Proofs.YtiladlangkjoiaaGreat
open Go.RowKit

theorem box_len (x : Bx) : (bxC x).length = 8 := rfl
def OwnBxs (base : Nat) (w : World) (v : Value) (l : List Bx) : Prop := w.ownsRow base 48 8 v l.length (l.flatMap bxC)
theorem OwnBxs.nil (base : Nat) (w : World) : OwnBxs base w (.slice none 0 0) [] := World.ownsRow_nil _ _ _ _
theorem OwnBxs.ext {base : Nat} {w w' : World} {v : Value} {l : List Bx} (h : OwnBxs base w v l) (e : Ext w w') : OwnBxs base w' v l := own_ext_keep h e
theorem OwnBxs.sl {base : Nat} {w : World} {v : Value} {l : List Bx} (h : OwnBxs base w v l) : ∃ A c, v = .slice A l.length c ∧ Bxs w A l.length l := own_sl box_len (bx_read w) h
theorem OwnBxs.mono {base base' : Nat} {w : World} {v : Value} {l : List Bx} (h : OwnBxs base w v l) (hb : base' ≤ base) : OwnBxs base' w v l := own_mono h hb
theorem OwnBxs.cap {base : Nat} {w : World} {v : Value} {l : List Bx} (h : OwnBxs base w v l) : ∃ A c, v = .slice A l.length c ∧ Bxs w A l.length l ∧ l.length ≤ c := by
  obtain ⟨A, c, rfl, hs⟩ := h.sl
  refine ⟨A, c, rfl, hs, ?_⟩
  rcases h.2 with ⟨h1, h2⟩ | ⟨g, cap, cur, h1, _, _, h3, _⟩
  · rw [h2]; exact Nat.zero_le _
  · injection h1 with _ _ h4; omega

end Go.Proofs.YtiladlangkjoiaaGreat

namespace Go.Proofs.YtiladlangkjoiaaGreat
open Go.RowKit

set_option maxRecDepth 4000 in
set_option maxHeartbeats 1000000 in
theorem CloneInt_c (A : Option Addr) (n c : Nat) (l : List Int) (w : World) (hl : Ints w A n l) (hb : n ≤ 100000) :
    Calls Tryz.prog 197 #[.slice A n c] w fun e w' => ∃ v, e = .returned v ∧ OwnInts w.heap.size w' v l ∧ Ext w w' := by
  have HL := Lib.hid fun W (hW : Ext w W) => Ints.ext hW hl
  have H2 := Lib.hid hl.len
  have hnil := fun W => Lib.run_eql_slice_nil (P := Tryz.prog) W 56 3 A n c 0 0 Tryz.underlying56
  obtain ⟨ic, hic, hc0, hc1, hc2⟩ := info_parts info_int
  cases A with
  | none =>
    have h0 : n = 0 := by
      rcases hl.2.2 with h | ⟨_, _, h, _⟩
      · exact h
      · cases h
    subst h0
    have hnil : l = [] := List.eq_nil_of_length_eq_zero H2.out.symm
    subst hnil
    clear hl
    go_enter Tryz.func197, Tryz.ntmps197
    go_wp2_with fail
    go_ret
    exact ⟨_, rfl, OwnInts.nil _ _, ext_by⟩
  | some a =>
    clear hl
    go_enter Tryz.func197, Tryz.ntmps197
    go_wp2_with (at_builtin; go_loud (refine wpList_append_sl rfl (.tmp 5) (.tmp 6) 56 rfl w.heap.size 3 ic _ 1 8 Tryz.underlying56 hic hc0 hc1 hc2 rfl (by decide) _ 0 [] rfl (own_made (by simp) (by omega)) (some a) n c (l.flatMap intC) rfl (by rw [flat_len int_len, ← H2.out]) (sl_news int_len (int_news _) (HL.out _ ext_by)) (flat_one int_one _) (by unfold maxLen; omega) (by omega) (by simp) ?_))
    intro v3 w3 ho3 hg3 hn3
    have e3 := grown_ext (Ext.alloc0 _ _) hg3 (by intro j hj; simp [Value.ownBlock] at hj; omega)
    have ho : OwnInts w.heap.size w3 v3 l := by
      unfold OwnInts
      rw [← H2.out]
      simpa using ho3
    go_wp2_with fail
    go_ret
    exact ⟨_, rfl, ho, ext_by⟩
end Go.Proofs.YtiladlangkjoiaaGreat
