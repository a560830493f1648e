/- Walks: laws.FnExactPlanText. -/
import Derived.Test.YthampfkicnakgaaGreatDoorE5Same
import Derived.Test.YthampfkicnakgaaGreatDoorV2SText
import Derived.Test.YthampfkicnakgaaGreatDoorV4IText
namespace Go.Proofs.YthampfkicnakgaaGreatDoor
open Go.RowKit

theorem fnExactPlanText_any (w : World) (v : Value) (plan : List Node) (h : ArgN w.heap.size w v plan) (hp : PTab w) (hkw : KWords w) :
    Calls Tryz.prog 6 #[v] w fun e w' => e = .returned (.bool true) ∧ w.grownBy w' none := by
  obtain ⟨A, n, c, rfl, -, -, -⟩ := h.form
  have HK := Lib.hid hkw
  clear hkw
  go_enter Tryz.func6, Tryz.ntmps6
  go_wp2_with fail
  refine (szNodeS_any w.heap.size _ plan 1048576 _ (by exact h) (Nat.le_refl _) (by omega) (by omega)).mono ?_
  rintro e w1 ⟨⟨z, rfl, hz1, hz2, hz3⟩, hg1⟩
  by_cases hz : 0 ≤ z
  · have hfit := hz3 hz
    have Hf := Lib.hid hfit
    have hl : plan.length ≤ 1048576 := hfit.1
    clear hz3 hfit
    go_wp2_with fail
    refine (toNodeS_any w.heap.size _ plan w1 (h.new hg1 (Nat.le_refl _)) hg1.size Hf.out).mono ?_
    rintro e w2 ⟨v2, rfl, hd2, hg2⟩
    have g2 := gb_trans hg1 hg2
    obtain ⟨A2, n2, c2, rfl⟩ := hd2.rn.val
    go_wp2_with fail
    refine (specPlanText_any _ plan w2 hd2.rn (by omega)).mono ?_
    rintro e w3 ⟨rfl, hg3⟩
    have g3 := gb_trans g2 hg3
    clear hg1 hg2 hg3 g2 hd2
    go_wp2_with fail
    refine (toNodeS_any w.heap.size _ plan w3 (h.new g3 (Nat.le_refl _)) g3.size Hf.out).mono ?_
    rintro e w4 ⟨v4, rfl, hd4, hg4⟩
    have g4 := gb_trans g3 hg4
    obtain ⟨A4, n4, c4, rfl⟩ := hd4.rn.val
    go_wp2_with fail
    refine (implPlanText_any _ plan w4 hd4.rn (hp.new g4) (HK.out.new g4)).mono ?_
    rintro e w5 ⟨rfl, hg5⟩
    have g5 := gb_trans g4 hg5
    have hd5 := hd4.new hg5
    clear hg4 hg5 g3 g4 hd4
    generalize planText plan = q at *
    go_wp2_with fail
    refine (toNodeS_any w.heap.size _ plan w5 (h.new g5 (Nat.le_refl _)) g5.size Hf.out).mono ?_
    rintro e w6 ⟨v6, rfl, hd6, hg6⟩
    obtain ⟨A6, n6, c6, rfl⟩ := hd6.rn.val
    go_wp2_with fail
    refine (eqNodeS_any _ _ plan w6 (hd5.new hg6).rn hd6.rn).mono ?_
    rintro e w7 ⟨rfl, hg7⟩
    go_wp2_with fail
    go_ret
    exact ⟨rfl, gb_trans (gb_trans g5 hg6) hg7⟩
  · clear hz3
    go_wp2_with fail
    go_ret
    exact ⟨rfl, hg1⟩
end Go.Proofs.YthampfkicnakgaaGreatDoor
