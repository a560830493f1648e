/- Walks: laws.FnWideLevels. -/
import Derived.Test.YtjlnhijabdkagaaI1Costs
import Derived.Test.YtjlnhijabdkagaaX6IWide
import Derived.IntWalk
namespace Go.Proofs.Ytjlnhijabdkagaa
open Go.RowKit

set_option maxHeartbeats 400000 in
theorem fnWideLevels_any (w : World) (v : Value) (n : Nat) (h : Bytes w w.heap.size v n) (hn : n ≤ 9223372036854775807) :
    Calls Try.prog 11 #[v] w fun e w' => e = .returned (.bool true) ∧ w.grownBy w' none := by
  obtain ⟨A, c, rfl, h2⟩ := id h
  have H := Lib.hid h
  clear h h2
  by_cases hbig : 1048576 < n
  · go_enter Try.func11, Try.ntmps11
    go_wp2_with fail
    go_ret
    exact ⟨rfl, gb_refl _ _⟩
  · go_enter Try.func11, Try.ntmps11
    go_wp2_with fail
    refine (drawCountWide_any _ _ n H.out (by omega)).mono ?_
    rintro e w1 ⟨v1, plan, rfl, hv1, hs1, hg1⟩
    obtain ⟨A1, n1, c1, rfl, hc1, hn1, hm1⟩ := hv1.form'
    have Hn1 := Lib.hid hn1
    have Hs := Lib.hid hs1
    have hn11 : n1 ≤ 11 := by rw [hn1]; exact hs1.1
    clear hn1 hs1
    go_wp2_with fail
    refine (implCountWide_any _ plan _ hv1).mono ?_
    rintro e w2 ⟨rfl, hg2⟩
    have hv2 := hv1.new hg2
    have hg12 := gb_trans hg1 hg2
    clear hg1 hg2 hv1
    go_wp2_with fail
    refine (specCountWide_any _ plan _ hv2 (by have := Hs.out.1; omega)).mono ?_
    rintro e w3 ⟨rfl, hg3⟩
    have hv3 := hv2.new hg3
    have hg := gb_trans hg12 hg3
    clear hg12 hg3 hv2
    by_cases hv : planValid plan = true
    · have Hv := Lib.hid hv
      obtain ⟨hw1, hw2, hw3⟩ := wide_levels hv
      rw [← Hn1.out] at hw1 hw2
      have Hw1 := Lib.hid hw1
      have hlc := levelCount_le hv
      rw [← Hn1.out] at hlc
      have Hwide := Lib.hid (countWide_is hv)
      have hn10 : n1 ≤ 10 := by have := planValid_len hv; rw [← Hn1.out] at this; exact this
      clear hv hw1
      go_wp2_with fail
      refine (implLevelsOf_any _ plan _ hv3).mono ?_
      rintro e w4 ⟨v4, rfl, hD, hg4⟩
      have hg' := gb_trans hg hg4
      obtain ⟨A4, n4, c4, rfl, -, hn4, -⟩ := hD.rl.form'
      rw [levelsOf_len Hv.out] at hn4
      have hw1 := Hw1.out
      rw [← hn4] at hw1 hlc
      clear hn4 hD hg hg4 Hw1 Hwide
      generalize countWide plan = z at *
      have hp : 0 ≤ z * (n4 : Int) ∧ z * (n4 : Int) ≤ 100 := by
        refine ⟨Int.mul_nonneg hw3 (by omega), ?_⟩
        have := Int.mul_le_mul (show z ≤ 10 by omega) (show (n4 : Int) ≤ 10 by omega) (by omega) (by omega)
        omega
      obtain ⟨p, hp2⟩ : ∃ p, p = z * (n4 : Int) := ⟨_, rfl⟩
      have e1 : IntKind.i64.wrap (z * (n4 : Int)) = p := by rw [← hp2] at hp; rw [← hp2]; exact IntWalk.i64_in _ (by omega)
      rw [← hp2] at hw1 hp
      obtain ⟨hp3, hp4⟩ := hp
      have Hp2 := Lib.hid hp2
      clear hp2
      go_wp2_with fail
      go_ret
      exact ⟨by first | rfl | (rw [← Hp2.out]; simp; omega) | (simp; omega), hg'⟩
    · have Hr : countWide plan = -1 := by unfold countWide; rw [if_neg hv]
      rw [Hr]
      clear Hr
      go_wp2_with fail
      go_ret
      exact ⟨rfl, hg⟩
end Go.Proofs.Ytjlnhijabdkagaa
