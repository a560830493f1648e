/- Walks: laws.FnWideRounds. -/
import Derived.Test.YtjlnhijabdkagaaI1Costs
import Derived.Test.YtjlnhijabdkagaaX6IWide
import Derived.Test.YtjlnhijabdkagaaX8Turns
namespace Go.Proofs.Ytjlnhijabdkagaa
open Go.RowKit

set_option maxHeartbeats 400000 in
theorem fnWideRounds_any (w : World) (v : Value) (n : Nat) (h : Bytes w w.heap.size v n) (hn : n ≤ 9223372036854775807) :
    Calls Try.prog 15 #[v] w fun e w' => e = .returned (.bool true) ∧ w.grownBy w' none := by
  obtain ⟨A, c, rfl, h2⟩ := id h
  have H := Lib.hid h
  clear h h2
  by_cases hbig : 1048576 < n
  · go_enter Try.func15, Try.ntmps15
    go_wp2_with fail
    go_ret
    exact ⟨rfl, gb_refl _ _⟩
  · go_enter Try.func15, Try.ntmps15
    go_wp2_with fail
    refine (drawCountWide_any _ _ n H.out (by omega)).mono ?_
    rintro e w1 ⟨v1, plan, rfl, hv1, hs1, hg1⟩
    obtain ⟨A1, n1, c1, rfl, hc1, hn1, hm1⟩ := hv1.form'
    have Hn1 := Lib.hid hn1
    have Hs := Lib.hid hs1
    have hn11 : n1 ≤ 11 := by rw [hn1]; exact hs1.1
    clear hn1 hs1
    go_wp2_with fail
    refine (implCountWide_any _ plan _ hv1).mono ?_
    rintro e w2 ⟨rfl, hg2⟩
    have hv2 := hv1.new hg2
    have hg12 := gb_trans hg1 hg2
    clear hg1 hg2 hv1
    go_wp2_with fail
    refine (specCountWide_any _ plan _ hv2 (by have := Hs.out.1; omega)).mono ?_
    rintro e w3 ⟨rfl, hg3⟩
    have hv3 := hv2.new hg3
    have hg := gb_trans hg12 hg3
    clear hg12 hg3 hv2
    by_cases hv : planValid plan = true
    · have Hv := Lib.hid hv
      obtain ⟨hw1, hw2, hw3⟩ := wide_levels hv
      rw [← Hn1.out] at hw1 hw2
      have Hw1 := Lib.hid hw1
      have hlc := levelCount_le hv
      rw [← Hn1.out] at hlc
      have Hwide := Lib.hid (countWide_is hv)
      have hn10 : n1 ≤ 10 := by have := planValid_len hv; rw [← Hn1.out] at this; exact this
      clear hv hw1
      have hlev := hlc
      obtain ⟨z, Hz⟩ : ∃ z, Hid (countWide plan = z) := ⟨_, rfl⟩
      rw [Hz.out] at hw2 hw3 ⊢
      clear Hw1 Hwide
      by_cases h1 : z < 1
      · go_wp2_with fail
        go_ret
        exact ⟨rfl, hg⟩
      · by_cases h4 : 4 < z
        · go_wp2_with fail
          go_ret
          exact ⟨rfl, hg⟩
        · go_wp2_with fail
          refine (turns_any _ plan z _ hv3 Hv.out (by omega) (by omega) (by rw [Hz.out]; omega)).mono ?_
          rintro e w4 ⟨rfl, hg4⟩
          have hv4 := hv3.new hg4
          obtain ⟨lc, Hlc⟩ : ∃ lc, Hid (levelCount plan = lc) := ⟨_, rfl⟩
          rw [Hlc.out]
          go_wp2_with fail
          refine (implLevelsOf_any _ plan _ hv4).mono ?_
          rintro e w5 ⟨v5, rfl, hD, hg5⟩
          obtain ⟨A4, n4, c4, rfl, -, hn4, -⟩ := hD.rl.form'
          rw [levelsOf_len Hv.out, Hlc.out] at hn4
          subst hn4
          go_wp2_with fail
          go_ret
          exact ⟨rfl, gb_trans (gb_trans hg hg4) hg5⟩
    · have Hr : countWide plan = -1 := by unfold countWide; rw [if_neg hv]
      rw [Hr]
      clear Hr
      go_wp2_with fail
      go_ret
      exact ⟨rfl, hg⟩
end Go.Proofs.Ytjlnhijabdkagaa
