/- Which guess is believed: the program. No condition. The law SkyBelieves: for every input it returns true. No condition. -/
import Derived.Test.YtfniicgoeljmdaaGreatOwnInts
import Derived.Test.YtfniicgoeljmdaaGreatNameW
import Derived.Laws.EntriesVeiled
namespace Go.Proofs.YtfniicgoeljmdaaGreat
open Go.RowKit

def Ret3 (w : World) (n : Int) (L : List Int) (er : Int) (e : Ending) (w' : World) : Prop :=
  ∃ A c, e = .returned (.tuple #[.int .i64 n, .slice A L.length c, .int .i64 er]) ∧ Ints w' A L.length L ∧ Ext w w'
theorem Ret3.mk {w w' : World} {n er : Int} {e : Ending} (he : e = .returned (.tuple #[.int .i64 n, .slice none 0 0, .int .i64 er])) (hw : Ext w w') : Ret3 w n [] er e w' := ⟨none, 0, he, SlR.nil _ _ _, hw⟩

end Go.Proofs.YtfniicgoeljmdaaGreat

namespace Go.Proofs.YtfniicgoeljmdaaGreat
open Go.RowKit

theorem sight_len (x : Sight) : (sightC x).length = 9 := rfl
theorem sight_read (w : World) (x : Sight) (b o : Nat) (h : ∀ i u, (sightC x)[i]? = some u → w.cell? ⟨b, o + i, none⟩ = some u) : sightAt w x b o := ⟨h 0 _ rfl, h 1 _ rfl, h 2 _ rfl, h 3 _ rfl, h 4 _ rfl, h 5 _ rfl, h 6 _ rfl, h 7 _ rfl, h 8 _ rfl⟩
theorem info_sight : (Tryz.prog.info? 87).map (fun i => (i.zero, i.size, i.bytes)) = some (some (.agg #[.int .i64 0, .int .i64 0, .int .i64 0, .int .i64 0, .int .i64 0, .int .i64 0, .int .i64 0, .int .i64 0, .int .i64 0]), 9, 72) := by kernel_rfl

end Go.Proofs.YtfniicgoeljmdaaGreat
