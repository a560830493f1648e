/- Walks: impl.levelList. -/
import Derived.Test.YthampfkicnakgaaGreatDoorX1Queue
import Derived.Test.YthampfkicnakgaaGreatDoorC6GraphOf
import Derived.Test.YthampfkicnakgaaGreatDoorG1Links
import Derived.Test.YthampfkicnakgaaGreatDoorA7Graph
import Derived.Test.YthampfkicnakgaaGreatDoorE2Args
import Derived.BigRegion
import Derived.RegionTactic
import Derived.Deep.LoopGhost
namespace Go.Proofs.YthampfkicnakgaaGreatDoor
open Go.RowKit

theorem OwnI.made {w : World} {base n : Nat} {v : Value} (h : w.ownsRow base 3 1 v n (madeCells #[Value.int .i64 0] n).toList) : OwnI w base v (List.replicate n 0) := by
  unfold OwnI
  have e : (madeCells #[Value.int .i64 0] n).toList = (List.replicate n (0 : Int)).map (.int .i64) := by
    apply List.ext_getElem?
    intro j
    by_cases hj : j < n
    · simp [madeCells, hj, Nat.mod_one]
    · simp [madeCells, hj]
  rw [List.length_replicate, ← e]
  exact h
theorem OwnI.apart_ {w w' : World} {base : Nat} {v : Value} {l : List Int} {row : Option Nat} (h : OwnI w base v l) (hg : w.grownBy w' row) (hr : v.ownBlock = none ∨ v.ownBlock ≠ row) : OwnI w' base v l := World.ownsRow.kept h hg hr
theorem OwnI.cell {w : World} {base g n c : Nat} {l : List Int} (h : OwnI w base (.slice (some ⟨g, 0, none⟩) n c) l) {k : Nat} {x : Int} (hx : l[k]? = some x) : w.cell? ⟨g, k, none⟩ = some (.int .i64 x) ∧ w.frozen? ⟨g, k, none⟩ = false ∧ base ≤ g ∧ ∃ cs, Blk w g 3 cs := by
  obtain ⟨g', cap', cur, he, _, hbg, hbk, hcs⟩ := h.form (by have := (List.getElem?_eq_some_iff.1 hx).1; omega)
  obtain rfl : g = g' := slice_block he
  exact ⟨hcs k x hx, hbk.frozen k, hbg, cur, hbk⟩
end Go.Proofs.YthampfkicnakgaaGreatDoor
