/- Walks: impl.isNode, impl.PlanUses. -/
import Derived.Test.YthampfkicnakgaaGreatDoorC6GraphOf
import Derived.Test.YthampfkicnakgaaGreatDoorG1Links
namespace Go.Proofs.YthampfkicnakgaaGreatDoor
open Go.RowKit

theorem isNode_b (A : Option Addr) (n c : Nat) (at_ : Int) (w : World) {b : Bool} (hb : (decide (0 ≤ at_) && decide (at_ < n)) = b) :
    Calls Tryz.prog 44 #[.slice A n c, .int .i64 at_] w fun e w' => e = .returned (.bool b) ∧ w = w' := by
  subst hb
  go_enter Tryz.func44, Tryz.ntmps44
  by_cases h0 : 0 ≤ at_
  · by_cases h1 : at_ < n
    · go_wp2_with fail
      go_ret
      exact ⟨by simp; omega, rfl⟩
    · go_wp2_with fail
      go_ret
      exact ⟨by simp; omega, rfl⟩
  · go_wp2_with fail
    go_ret
    exact ⟨by simp; omega, rfl⟩
end Go.Proofs.YthampfkicnakgaaGreatDoor
