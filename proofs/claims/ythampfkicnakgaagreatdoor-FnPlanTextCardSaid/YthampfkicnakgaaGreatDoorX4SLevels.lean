/- Walks: spec.l5Levels, spec.LevelsOf, spec.CountWide. -/
import Derived.Test.YthampfkicnakgaaGreatDoorC1Spec
import Derived.Test.YthampfkicnakgaaGreatDoorA10Wide
import Derived.Test.YthampfkicnakgaaGreatDoorA9Deep
namespace Go.Proofs.YthampfkicnakgaaGreatDoor
open Go.RowKit

def IntsOut (w : World) (l : List Int) (e : Ending) (w' : World) : Prop := ∃ v', e = .returned v' ∧ OwnI w' w.heap.size v' l ∧ w.grownBy w' none
theorem foldl_snoc_int (f : Int → Int → Int) (l : List Int) (k : Nat) (b x : Int) (h : l[k]? = some x) : (l.take (k + 1)).foldl f b = f ((l.take k).foldl f b) x := by
  obtain ⟨hk, rfl⟩ := List.getElem?_eq_some_iff.1 h
  rw [List.take_succ_eq_append_getElem hk, List.foldl_append]
  rfl
end Go.Proofs.YthampfkicnakgaaGreatDoor
