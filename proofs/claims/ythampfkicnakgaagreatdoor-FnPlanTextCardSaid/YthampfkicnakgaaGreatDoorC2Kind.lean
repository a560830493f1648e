/- Walks: impl.workOf, KindValid, KindNeeds. -/
import Derived.Test.YthampfkicnakgaaGreatDoorB1Rows
namespace Go.Proofs.YthampfkicnakgaaGreatDoor
open Go.RowKit

/-- What a kind does, as an interface value. -/
def work (k : Int) : Value :=
  if k = 0 then .iface 159 (.agg #[])
  else if k = 1 then .iface 138 (.agg #[.func (.func 101) #[] #[]])
  else if k = 2 then .iface 138 (.agg #[.func (.func 102) #[] #[]])
  else if k = 3 then .iface 142 (.agg #[.func (.func 103) #[] #[]])
  else if k = 4 then .iface 142 (.agg #[.func (.func 104) #[] #[]])
  else if k = 5 then .iface 142 (.agg #[.func (.func 105) #[] #[]])
  else .nilIface

theorem workOf_any (k : Int) (w : World) :
    Calls Tryz.prog 82 #[.int .i64 k] w fun e w' => e = .returned (work k) ∧ w = w' := by
  by_cases hk : k < 0 ∨ 5 < k
  · have H : Hid (work k = .nilIface) := by
      show work k = .nilIface
      unfold work
      repeat rw [if_neg (by omega)]
    rcases hk with hk | hk
    all_goals
      go_enter Tryz.func82, Tryz.ntmps82
      go_wp2_with fail
      go_ret
      exact ⟨by rw [H.out]; rfl, rfl⟩
  · rcases (show k = 0 ∨ k = 1 ∨ k = 2 ∨ k = 3 ∨ k = 4 ∨ k = 5 by omega) with rfl | rfl | rfl | rfl | rfl | rfl
    all_goals
      clear hk
      go_enter Tryz.func82, Tryz.ntmps82
      go_wp2_with fail
      go_ret
      exact ⟨rfl, rfl⟩
theorem implKindValid_any (k : Int) (w : World) :
    Calls Tryz.prog 87 #[.int .i64 k] w fun e w' => e = .returned (.bool (kindValid k)) ∧ w = w' := by
  by_cases hk : k < 0 ∨ 5 < k
  · have H : Hid (work k = .nilIface) := by
      show work k = .nilIface
      unfold work
      repeat rw [if_neg (by omega)]
    have hv : kindValid k = false := by
      unfold kindValid
      simp only [Bool.and_eq_false_iff, decide_eq_false_iff_not]
      omega
    rw [hv]
    clear hv hk
    go_enter Tryz.func87, Tryz.ntmps87
    go_wp2_with fail
    refine (workOf_any _ _).mono ?_
    rw [H.out]
    rintro e w' ⟨rfl, rfl⟩
    go_wp2_with fail
    go_ret
    exact ⟨rfl, rfl⟩
  · rcases (show k = 0 ∨ k = 1 ∨ k = 2 ∨ k = 3 ∨ k = 4 ∨ k = 5 by omega) with rfl | rfl | rfl | rfl | rfl | rfl
    all_goals
      clear hk
      go_enter Tryz.func87, Tryz.ntmps87
      go_wp2_with fail
      refine (workOf_any _ _).mono ?_
      simp only [work, if_true]
      rintro e w' ⟨rfl, rfl⟩
      go_wp2_with fail
      go_ret
      exact ⟨rfl, rfl⟩
theorem implKindValid_b (k : Int) (w : World) {b : Bool} (hb : kindValid k = b) :
    Calls Tryz.prog 87 #[.int .i64 k] w fun e w' => e = .returned (.bool b) ∧ w = w' := hb ▸ implKindValid_any k w

theorem m_given (w : World) : (method 347 159 (.agg #[]) "loop.example/workplans/impl.needs").run Tryz.prog w = .ok (205, .agg #[]) w := by kernel_rfl
theorem m_pair (f : FuncId) (w : World) : (method 347 138 (.agg #[.func (.func f) #[] #[]]) "loop.example/workplans/impl.needs").run Tryz.prog w = .ok (83, .agg #[.func (.func f) #[] #[]]) w := by kernel_rfl
theorem m_lone (f : FuncId) (w : World) : (method 347 142 (.agg #[.func (.func f) #[] #[]]) "loop.example/workplans/impl.needs").run Tryz.prog w = .ok (84, .agg #[.func (.func f) #[] #[]]) w := by kernel_rfl
theorem givenNeeds_any (w : World) : Calls Tryz.prog 205 #[.agg #[]] w fun e w' => e = .returned (.int .i64 0) ∧ w.grownBy w' none := by
  go_enter Tryz.func205, Tryz.ntmps205
  go_wp2_with fail
  go_ret
  exact ⟨rfl, World.grownBy_alloc _ _ _⟩
theorem pairNeeds_any (f : FuncId) (w : World) : Calls Tryz.prog 83 #[.agg #[.func (.func f) #[] #[]]] w fun e w' => e = .returned (.int .i64 2) ∧ w.grownBy w' none := by
  go_enter Tryz.func83, Tryz.ntmps83
  go_wp2_with fail
  go_ret
  exact ⟨rfl, World.grownBy_alloc _ _ _⟩
theorem loneNeeds_any (f : FuncId) (w : World) : Calls Tryz.prog 84 #[.agg #[.func (.func f) #[] #[]]] w fun e w' => e = .returned (.int .i64 1) ∧ w.grownBy w' none := by
  go_enter Tryz.func84, Tryz.ntmps84
  go_wp2_with fail
  go_ret
  exact ⟨rfl, World.grownBy_alloc _ _ _⟩

set_option maxRecDepth 20000 in
theorem implKindNeeds_any (k : Int) (w : World) :
    Calls Tryz.prog 88 #[.int .i64 k] w fun e w' => e = .returned (.int .i64 (kindNeeds k)) ∧ w.grownBy w' none := by
  by_cases hk : k < 0 ∨ 5 < k
  · have H : Hid (work k = .nilIface) := by
      show work k = .nilIface
      unfold work
      repeat rw [if_neg (by omega)]
    rw [show kindNeeds k = -1 by unfold kindNeeds; rw [if_pos hk]]
    clear hk
    go_enter Tryz.func88, Tryz.ntmps88
    go_wp2_with fail
    refine (workOf_any _ _).mono ?_
    rw [H.out]
    rintro e w' ⟨rfl, rfl⟩
    go_wp2_with fail
    go_ret
    exact ⟨rfl, gb_refl _ _⟩
  · rcases (show k = 0 ∨ k = 1 ∨ k = 2 ∨ k = 3 ∨ k = 4 ∨ k = 5 by omega) with rfl | rfl | rfl | rfl | rfl | rfl
    all_goals
      clear hk
      go_enter Tryz.func88, Tryz.ntmps88
      go_wp2_with fail
      refine (workOf_any _ _).mono ?_
      simp only [work, if_true]
      rintro e w' ⟨rfl, rfl⟩
      have hm1 := m_given
      have hm2 := m_pair
      have hm3 := m_lone
      go_wp2_with (first
        | (go_at_call 205; refine (givenNeeds_any _).mono ?_; rintro e w' ⟨rfl, hg⟩)
        | (go_at_call 83; refine (pairNeeds_any _ _).mono ?_; rintro e w' ⟨rfl, hg⟩)
        | (go_at_call 84; refine (loneNeeds_any _ _).mono ?_; rintro e w' ⟨rfl, hg⟩))
      go_ret
      exact ⟨rfl, by assumption⟩
end Go.Proofs.YthampfkicnakgaaGreatDoor
