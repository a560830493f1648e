/- Walks: laws.FnWide. -/
import Derived.Test.YtjlnhijabdkagaaI1Costs
import Derived.Test.YtjlnhijabdkagaaX6IWide
namespace Go.Proofs.Ytjlnhijabdkagaa
open Go.RowKit

set_option maxHeartbeats 400000 in
theorem fnWide_any (w : World) (v : Value) (n : Nat) (h : Bytes w w.heap.size v n) (hn : n ≤ 9223372036854775807) :
    Calls Try.prog 10 #[v] w fun e w' => e = .returned (.bool true) ∧ w.grownBy w' none := by
  obtain ⟨A, c, rfl, h2⟩ := id h
  have H := Lib.hid h
  clear h h2
  by_cases hbig : 1048576 < n
  · go_enter Try.func10, Try.ntmps10
    go_wp2_with fail
    go_ret
    exact ⟨rfl, gb_refl _ _⟩
  · go_enter Try.func10, Try.ntmps10
    go_wp2_with fail
    refine (drawCountWide_any _ _ n H.out (by omega)).mono ?_
    rintro e w1 ⟨v1, plan, rfl, hv1, hs1, hg1⟩
    obtain ⟨A1, n1, c1, rfl, hc1, hn1, hm1⟩ := hv1.form'
    have Hn1 := Lib.hid hn1
    have Hs := Lib.hid hs1
    have hn11 : n1 ≤ 11 := by rw [hn1]; exact hs1.1
    clear hn1 hs1
    go_wp2_with fail
    refine (implCountWide_any _ plan _ hv1).mono ?_
    rintro e w2 ⟨rfl, hg2⟩
    have hv2 := hv1.new hg2
    have hg12 := gb_trans hg1 hg2
    clear hg1 hg2 hv1
    go_wp2_with fail
    refine (specCountWide_any _ plan _ hv2 (by have := Hs.out.1; omega)).mono ?_
    rintro e w3 ⟨rfl, hg3⟩
    have hv3 := hv2.new hg3
    have hg := gb_trans hg12 hg3
    clear hg12 hg3 hv2
    by_cases hv : planValid plan = true
    · have Hv := Lib.hid hv
      obtain ⟨hw1, hw2, hw3⟩ := wide_levels hv
      rw [← Hn1.out] at hw1 hw2
      have Hw1 := Lib.hid hw1
      have hlc := levelCount_le hv
      rw [← Hn1.out] at hlc
      have Hwide := Lib.hid (countWide_is hv)
      have hn10 : n1 ≤ 10 := by have := planValid_len hv; rw [← Hn1.out] at this; exact this
      clear hv hw1
      obtain ⟨z, Hz⟩ : ∃ z, Hid (countWide plan = z) := ⟨_, rfl⟩
      rw [Hz.out] at Hwide hw2 hw3 ⊢
      clear Hw1
      go_wp2_with fail
      refine (implLevelsOf_any _ plan _ hv3).mono ?_
      rintro e w4 ⟨v4, rfl, hD, hg4⟩
      have hg' := gb_trans hg hg4
      obtain ⟨A4, n4, c4, rfl, -, hn4, -⟩ := hD.rl.form'
      rw [levelsOf_len Hv.out] at hn4
      have Hn4 := Lib.hid hn4
      have hn4' : n4 ≤ 10 := by omega
      have hrl := hD.rl
      clear hn4 hD hlc hg hg4
      have Hall : Hid (∀ (m : Nat) (l : List Int), (levelsOf plan)[m]? = some l → (l.length : Int) ≤ z ∧ (l.length : Int) ≤ 10) := by
        intro m l hl
        have hm : m < levelCount plan := by rw [← levelsOf_len Hv.out]; exact (List.getElem?_eq_some_iff.1 hl).1
        rw [levelsOf_get Hv.out hm] at hl
        injection hl with hl
        subst hl
        have h1 := Hwide.out.1 m
        rw [← levelRow_onLevel] at h1
        have h2 := levelRow_len (plan := plan) m
        rw [← Hn1.out] at h2
        omega
      go_wp2_with fail
      go_loopg [7, 8] (n4 + 1) (fun mm s i wr => ∃ (k : Nat) (b : Bool), k ≤ n4 ∧ mm = n4 + 1 - k ∧ i = .int .i64 k ∧ s = .bool b ∧ Hid (b = (decide (n4 = 0) || ((levelsOf plan).take k).any (fun l => decide ((l.length : Int) = z)))) ∧ wr = w4)
      case atStart => exact ⟨0, _, Nat.zero_le _, rfl, rfl, rfl, by
        show _ = _
        rw [List.take_zero, List.any_nil, Bool.or_false]
        rw [Bool.eq_iff_iff]
        simp, rfl⟩
      case round =>
        obtain ⟨k, b, hk, rfl, rfl, rfl, Hb, hw⟩ := hrel
        subst hw
        by_cases hlt : k < n4
        · obtain ⟨g, o, l, B, m, e, rfl, hx, c0, hri, hm, hme, -⟩ := hrl.at_ hlt
          obtain ⟨hle, hl10⟩ := Hall.out k l hx
          rw [← hm] at hle hl10
          have Hb2 : Hid ((b || decide ((m : Int) = z)) = (decide (n4 = 0) || ((levelsOf plan).take (k + 1)).any (fun l => decide ((l.length : Int) = z)))) := by
            show _ = _
            obtain ⟨hk', hx'⟩ := List.getElem?_eq_some_iff.1 hx
            rw [List.take_succ_eq_append_getElem hk', List.any_append, hx', Hb.out, hm]
            simp [Bool.or_assoc]
          clear hx hm
          cases b
          · by_cases hmz : (m : Int) = z
            · rw [decide_eq_true hmz] at Hb2
              subst hmz
              go_wp2_with fail
              go_roundg (n4 + 1 - (k + 1))
              case measure => omega
              case rel => exact ⟨k + 1, true, by omega, rfl, by go_num, rfl, Hb2, rfl⟩
            · rw [decide_eq_false hmz] at Hb2
              have hbz : ((m : Int) == z) = false := by simpa using hmz
              clear hmz
              go_wp2_with fail
              go_roundg (n4 + 1 - (k + 1))
              case measure => omega
              case rel => exact ⟨k + 1, false, by omega, rfl, by go_num, rfl, Hb2, rfl⟩
          · rw [Bool.true_or] at Hb2
            go_wp2_with fail
            go_roundg (n4 + 1 - (k + 1))
            case measure => omega
            case rel => exact ⟨k + 1, true, by omega, rfl, by go_num, rfl, Hb2, rfl⟩
        · obtain rfl : k = n4 := by omega
          obtain rfl : b = true := by
            rw [Hb.out, List.take_of_length_le (by rw [levelsOf_len Hv.out, ← Hn4.out]; exact Nat.le_refl _)]
            by_cases h0 : k = 0
            · rw [decide_eq_true h0]
              rfl
            · rw [Bool.or_eq_true]
              right
              rw [List.any_eq_true]
              have hfirst := levelRow_ne Hv.out (m := 0) (by rw [← Hn4.out]; omega)
              have hf1 := List.length_pos_iff.2 hfirst
              have hf2 := Hwide.out.1 0
              rw [← levelRow_onLevel] at hf2
              rcases Hwide.out.2 with hz | ⟨m, hm⟩
              · omega
              · rw [← levelRow_onLevel] at hm
                have hmc : m < levelCount plan := by
                  rcases Nat.lt_or_ge m (levelCount plan) with h1 | h1
                  · exact h1
                  · rw [levelRow_nil Hv.out h1] at hm
                    simp at hm
                    omega
                exact ⟨levelRow plan m, List.mem_of_getElem? (levelsOf_get Hv.out hmc), by simpa using hm.symm⟩
          clear Hb
          go_wp2_with fail
          go_ret
          exact ⟨rfl, hg'⟩
    · have Hr : countWide plan = -1 := by unfold countWide; rw [if_neg hv]
      rw [Hr]
      clear Hr
      go_wp2_with fail
      go_ret
      exact ⟨rfl, hg⟩
end Go.Proofs.Ytjlnhijabdkagaa
