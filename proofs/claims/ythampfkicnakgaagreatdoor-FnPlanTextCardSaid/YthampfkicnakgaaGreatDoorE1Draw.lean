/- Walks: the draw of a plan; spec.CountNeeds. -/
import Derived.Test.YthampfkicnakgaaGreatDoorB6Plan
import Derived.Test.YthampfkicnakgaaGreatDoorC1Spec
import Derived.Test.YthampfkicnakgaaGreatDoorB3Open
namespace Go.Proofs.YthampfkicnakgaaGreatDoor
open Go.RowKit

/-- A drawn plan: a new one, nothing that was there turned. -/
def DrawPlan (w : World) (e : Ending) (w' : World) : Prop := ∃ v plan, e = .returned v ∧ RN w' v plan ∧ smallPlan plan ∧ w.grownBy w' none


/-- The sum of the needs of the first k nodes. -/
def fsum (plan : List Node) (k : Nat) : Int := ((plan.take k).map (fun x => (x.frm.length : Int))).sum
theorem fsum_succ {plan : List Node} {k : Nat} {nd : Node} (h : plan[k]? = some nd) : fsum plan (k + 1) = fsum plan k + nd.frm.length := by
  obtain ⟨hk, rfl⟩ := List.getElem?_eq_some_iff.1 h
  unfold fsum
  rw [List.take_succ_eq_append_getElem hk, List.map_append, List.sum_append]
  simp
theorem fsum_bound {plan : List Node} (hv : planValid plan = true) (k : Nat) : 0 ≤ fsum plan k ∧ fsum plan k ≤ 2 * k := by
  induction k with
  | zero => simp [fsum]
  | succ k ih =>
    cases h : plan[k]? with
    | none =>
      have : plan.length ≤ k := by simpa using h
      have e : fsum plan (k + 1) = fsum plan k := by unfold fsum; rw [List.take_of_length_le (by omega), List.take_of_length_le this]
      omega
    | some nd =>
      have := (planValid_node hv h).2.1
      rw [fsum_succ h]
      omega
theorem fsum_all {plan : List Node} (hv : planValid plan = true) : fsum plan plan.length = countNeeds plan := by
  unfold fsum countNeeds
  rw [if_pos hv, List.take_of_length_le (Nat.le_refl _)]

end Go.Proofs.YthampfkicnakgaaGreatDoor
