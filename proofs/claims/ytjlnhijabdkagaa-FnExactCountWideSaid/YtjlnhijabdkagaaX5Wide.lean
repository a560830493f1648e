/- Walks: spec.CountWide, impl.LevelsOf. -/
import Derived.Test.YtjlnhijabdkagaaX4SLevels
import Derived.Test.YtjlnhijabdkagaaX3LevelOf
namespace Go.Proofs.Ytjlnhijabdkagaa
open Go.RowKit

theorem specCountWide_any (v : Value) (plan : List Node) (w : World) (h : RN w v plan) (hl : plan.length ≤ 1000000000) :
    Calls Try.prog 46 #[v] w fun e w' => e = .returned (.int .i64 (countWide plan)) ∧ w.grownBy w' none := by
  obtain ⟨A, n, c, rfl, -, hn, -⟩ := h.form'
  have Hn := Lib.hid hn
  clear hn
  by_cases hv : planValid plan = true
  · have Hv := Lib.hid hv
    have hn10 : n ≤ 10 := by have := planValid_len hv; rw [← Hn.out] at this; exact this
    have hlc := levelCount_le hv
    rw [← Hn.out] at hlc
    clear hv
    go_enter Try.func46, Try.ntmps46
    go_wp2_with fail
    refine (specPlanValid_b _ plan _ h hl Hv.out).mono ?_
    rintro e w1 ⟨rfl, hg1⟩
    go_wp2_with fail
    refine (specLevelsOf_any _ plan w1 (h.new hg1) hl).mono ?_
    rintro e w2 ⟨v2, rfl, hO, hg2⟩
    obtain ⟨A2, n2, c2, rfl, -, hn2, -⟩ := hO.rl.form'
    have Hlen := Lib.hid (levelsOf_len Hv.out)
    have hn2' : n2 ≤ 10 := by rw [hn2, Hlen.out]; omega
    have Hn2 := Lib.hid hn2
    have hg := gb_trans hg1 hg2
    clear hn2 hg1 hg2
    go_wp2_with fail
    go_loopg [3, 5] (n2 + 1) (fun m s i wr => ∃ (k : Nat) (z : Int), k ≤ n2 ∧ m = n2 + 1 - k ∧ i = .int .i64 k ∧ s = .int .i64 z ∧ 0 ≤ z ∧ z ≤ 10 ∧ Hid (z = wideTo (levelsOf plan) k) ∧ wr = w2)
    case atStart => exact ⟨0, 0, Nat.zero_le _, rfl, rfl, rfl, by omega, by omega, rfl, rfl⟩
    case round =>
      obtain ⟨k, z, hk, rfl, rfl, rfl, hz0, hz1, Hz, hw⟩ := hrel
      subst hw
      by_cases hlt : k < n2
      · obtain ⟨g, o, l, B, m, e, rfl, hx, c0, hri, hm, hme, -⟩ := hO.rl.at_ hlt
        have hm10 : m ≤ 10 := by
          rw [levelsOf_get Hv.out (by rw [← Hlen.out, ← Hn2.out]; exact hlt)] at hx
          injection hx with hx
          subst hx
          have := levelRow_len (plan := plan) k
          rw [← Hn.out] at this
          omega
        have Hz2 : Hid (max z (m : Int) = wideTo (levelsOf plan) (k + 1)) := by
          show _ = _
          rw [wideTo_succ hx, ← Hz.out, hm]
        obtain ⟨mx, Hmx, hcase⟩ : ∃ mx, Hid (max z (m : Int) = mx) ∧ ((z < (m : Int) ∧ mx = (m : Int)) ∨ ((m : Int) ≤ z ∧ mx = z)) := ⟨_, rfl, by omega⟩
        rw [Hmx.out] at Hz2
        clear Hmx hx hm
        rcases hcase with ⟨hc, rfl⟩ | ⟨hc, rfl⟩
        all_goals
          go_wp2_with fail
          go_roundg (n2 + 1 - (k + 1))
          case measure => omega
          case rel => exact ⟨k + 1, _, by omega, rfl, by go_num, rfl, by omega, by omega, Hz2, rfl⟩
      · obtain rfl : k = n2 := by omega
        have Hr : Hid (countWide plan = z) := by
          show _ = _
          unfold countWide
          rw [if_pos Hv.out, ← Hn2.out, ← Hz.out]
        go_wp2_with fail
        go_ret
        exact ⟨by rw [Hr.out]; rfl, hg⟩
  · have hv' : planValid plan = false := by simpa using hv
    have Hv := Lib.hid hv'
    have Hr : Hid (countWide plan = -1) := by show countWide plan = _; unfold countWide; rw [if_neg hv]
    clear hv hv'
    go_enter Try.func46, Try.ntmps46
    go_wp2_with fail
    refine (specPlanValid_b _ plan _ h hl Hv.out).mono ?_
    rintro e w1 ⟨rfl, hg1⟩
    go_wp2_with fail
    go_ret
    exact ⟨by rw [Hr.out]; rfl, hg1⟩
def DeepOut (w : World) (ll : List (List Int)) (e : Ending) (w' : World) : Prop := ∃ v', e = .returned v' ∧ DL w' w.heap.size v' ll ∧ w.grownBy w' none
/-- The lists behind the first k nodes. -/
def fillTo (plan : List Node) (c k : Nat) : List (List Int) := (List.range c).map (fun m => (onLevel plan k m).map (fun i : Nat => (i : Int)))
theorem fillTo_zero (plan : List Node) (c : Nat) : fillTo plan c 0 = List.replicate c [] := by
  apply List.ext_getElem?
  intro i
  unfold fillTo
  by_cases h : i < c
  · rw [List.getElem?_map, List.getElem?_range h, List.getElem?_replicate, if_pos h]
    rfl
  · rw [List.getElem?_eq_none (by simp; omega), List.getElem?_eq_none (by simp; omega)]
theorem fillTo_len (plan : List Node) (c k : Nat) : (fillTo plan c k).length = c := by simp [fillTo]
theorem fillTo_get {plan : List Node} {c k m : Nat} (h : m < c) : (fillTo plan c k)[m]? = some ((onLevel plan k m).map (fun i : Nat => (i : Int))) := by
  unfold fillTo
  rw [List.getElem?_map, List.getElem?_range h]
  rfl
theorem fillTo_succ {plan : List Node} {c k m : Nat} (hm : lv plan k = (m : Int)) (h : m < c) : fillTo plan c (k + 1) = (fillTo plan c k).set m ((onLevel plan k m).map (fun i : Nat => (i : Int)) ++ [(k : Int)]) := by
  apply List.ext_getElem?
  intro i
  by_cases hi : i < c
  · rw [fillTo_get hi, List.getElem?_set, fillTo_len, onLevel_succ]
    by_cases e : m = i
    · subst e
      rw [if_pos hm, if_pos rfl, if_pos h, List.map_append]
      rfl
    · rw [if_neg (by omega), if_neg e, fillTo_get hi]
  · rw [List.getElem?_eq_none (by rw [fillTo_len]; omega), List.getElem?_eq_none (by rw [List.length_set, fillTo_len]; omega)]
set_option maxHeartbeats 400000 in
theorem implLevelsOf_any (v : Value) (plan : List Node) (w : World) (h : RN w v plan) :
    Calls Try.prog 47 #[v] w (DeepOut w (levelsOf plan)) := by
  obtain ⟨A, n, c, rfl, -, hn, -⟩ := h.form'
  have Hn := Lib.hid hn
  clear hn
  by_cases hv : planValid plan = true
  · have Hv := Lib.hid hv
    have hn10 : n ≤ 10 := by have := planValid_len hv; rw [← Hn.out] at this; exact this
    have hlc := levelCount_le hv
    rw [← Hn.out] at hlc
    clear hv
    obtain ⟨i0, hi, hz0, hz1, hz2⟩ := info_parts info27
    go_enter Try.func47, Try.ntmps47
    go_wp2_with fail
    refine (levelList_any _ plan _ h).mono ?_
    rintro e w1 ⟨v1, rfl, hg1, ho1⟩
    rw [Hv.out, if_pos rfl] at ho1
    rw [Hv.out]
    obtain ⟨A1, n1, c1, rfl, -, hn1⟩ := ho1.ri.form'
    rw [levels_len, ← Hn.out] at hn1
    subst hn1
    have hri := ho1.ri
    clear ho1
    go_wp2_with fail
    go_loopg [5, 20] (n1 + 1) (fun m s i wr => ∃ (k : Nat) (z : Int), k ≤ n1 ∧ m = n1 + 1 - k ∧ i = .int .i64 k ∧ s = .int .i64 z ∧ 0 ≤ z ∧ z ≤ 10 ∧ Hid (z = countTo plan k) ∧ wr = w1)
    case atStart => exact ⟨0, 0, Nat.zero_le _, rfl, rfl, rfl, by omega, by omega, by show (0 : Int) = _; simp [countTo], rfl⟩
    case round =>
      obtain ⟨k, z, hk, rfl, rfl, rfl, hz0, hz1, Hz, hw⟩ := hrel
      subst hw
      by_cases hlt : k < n1
      · obtain ⟨g, o, x, rfl, hx, c0⟩ := hri.at_ hlt
        rw [levels_get (by rw [← Hn.out]; exact hlt)] at hx
        injection hx with hx
        have hx0 : 0 ≤ x := by rw [← hx]; exact lv_nonneg Hv.out k
        have hx1 : x ≤ k := by rw [← hx]; exact lv_le Hv.out k
        have Hz2 : Hid (max z (x + 1) = countTo plan (k + 1)) := by
          show _ = _
          rw [countTo_succ (by rw [← Hn.out]; exact hlt), ← Hz.out, hx]
        obtain ⟨mx, Hmx, hcase⟩ : ∃ mx, Hid (max z (x + 1) = mx) ∧ ((z < x + 1 ∧ mx = x + 1) ∨ (x + 1 ≤ z ∧ mx = z)) := ⟨_, rfl, by omega⟩
        rw [Hmx.out] at Hz2
        clear Hmx hx
        rcases hcase with ⟨hc, rfl⟩ | ⟨hc, rfl⟩
        all_goals
          go_wp2_with fail
          go_roundg (n1 + 1 - (k + 1))
          case measure => omega
          case rel => exact ⟨k + 1, _, by omega, rfl, by go_num, rfl, by omega, by omega, Hz2, rfl⟩
      · obtain rfl : k = n1 := by omega
        obtain ⟨cnt, hcnt⟩ := Int.eq_ofNat_of_zero_le hz0
        subst hcnt
        have Hc : Hid (levelCount plan = cnt) := by
          show _ = _
          have h1 := levelCount_eq Hv.out
          have h2 := Hz.out
          rw [Hn.out] at h2
          omega
        have hcn : cnt ≤ k := by rw [← Hc.out]; exact hlc
        clear Hz hz0 hz1 hlc
        go_wp2_with (at_make; go_must (refine wpList_make_full _ rfl _ _ 45 rfl wr.heap.size 27 i0 _ 1 Try.underlying45 hi hz0 hz1 _ _ _ _ cnt rfl rfl rfl rfl (by rw [hz2]; omega) (by unfold maxLen; omega) (Nat.le_refl _) ?_))
        intro w2 hown2 hg2
        have hD2 : DL w2 wr.heap.size (.slice (some ⟨wr.heap.size, 0, none⟩) cnt cnt) (fillTo plan cnt 0) := by
          rw [fillTo_zero]
          refine DL.made ?_
          have e : cnt * 1 = cnt := Nat.mul_one cnt
          first | exact hown2 | (rw [e] at hown2; exact hown2) | (simp at hown2; exact hown2)
        clear hown2
        obtain ⟨wo, rfl⟩ : ∃ wo : World, wo = wr := ⟨_, rfl⟩
        have hs1 := hg1.size
        go_wp2_with fail
        go_loopg [33] (k + 1) (fun m i wr => ∃ t : Nat, t ≤ k ∧ m = k + 1 - t ∧ i = .int .i64 t ∧ DL wr wo.heap.size (.slice (some ⟨wo.heap.size, 0, none⟩) cnt cnt) (fillTo plan cnt t) ∧ wo.grownBy wr none)
        case atStart => exact ⟨0, Nat.zero_le _, rfl, rfl, hD2, hg2⟩
        case round =>
          clear hD2 hg2
          obtain ⟨t, ht, rfl, rfl, hD, hg⟩ := hrel
          by_cases htk : t < k
          · obtain ⟨g, o, x, rfl, hx, c0⟩ := (hri.new hg).at_ htk
            rw [levels_get (by rw [← Hn.out]; exact htk)] at hx
            injection hx with hx
            have hx0 : 0 ≤ x := by rw [← hx]; exact lv_nonneg Hv.out t
            obtain ⟨q, rfl⟩ := Int.eq_ofNat_of_zero_le hx0
            have hq : q < cnt := by
              have := lv_lt Hv.out (i := t) (by rw [← Hn.out]; exact htk)
              rw [Hc.out, hx] at this
              omega
            obtain ⟨u, d0, f0, hgb, ⟨cs, hbk⟩, hqi, hput⟩ := hD.at_ (fillTo_get hq)
            have hF : fillTo plan cnt (t + 1) = (fillTo plan cnt t).set q ((onLevel plan t q).map (fun i : Nat => (i : Int)) ++ [(t : Int)]) := fillTo_succ hx hq
            have HF := Lib.hid hF
            have hlen : ((onLevel plan t q).map (fun i : Nat => (i : Int))).length ≤ 1000 := by
              have := onLevel_len plan t q
              rw [List.length_map]
              omega
            obtain ⟨Au, nu, cu, rfl, -, -⟩ := hqi.slice
            clear hx hF hx0
            go_wp2_with (at_builtin; go_must (refine wp_append_int (.tmp 43) (.tmp 45) rfl rfl hqi (by omega) hg.size rfl rfl rfl ?_))
            intro v' w4 hq4 hg4 hob
            obtain ⟨A4, n4, c4, rfl, -, -⟩ := hq4.slice
            have hD4 := hput w4 _ _ _ _ hg4 (.inr rfl) (Nat.le_succ _) hq4 (.inr hob)
            rw [← HF.out] at hD4
            have hE : NotE wr 27 (Value.slice Au nu cu).ownBlock := hqi.notE (by decide)
            have hbk4 : Blk w4 wo.heap.size 27 cs := hbk.grown hg4 (fun e => hE _ e.symm cs hbk)
            obtain ⟨u4, e4⟩ : ∃ u, cs[q]? = some u := ⟨_, (hbk.cell q).symm.trans d0⟩
            have d4 : w4.cell? ⟨wo.heap.size, q, none⟩ = some u4 := (hbk4.cell q).trans e4
            have f4 := hbk4.frozen q
            have hg5 : wo.grownBy (w4.setCell ⟨wo.heap.size, q, none⟩ (.slice A4 n4 c4)) none := gb_set (p := ⟨wo.heap.size, q, none⟩) (hqi.gb hg hg4 (Nat.le_refl _)) (.inl (Nat.le_refl _)) _
            clear hput hqi hq4 hg4 hob hE hbk hbk4 hD hg e4
            go_wp2_with fail
            go_roundg (k + 1 - (t + 1))
            case measure => omega
            case rel => exact ⟨t + 1, by omega, rfl, by go_num, hD4, hg5⟩
          · obtain rfl : t = k := by omega
            have hD2 : DL wr w.heap.size (.slice (some ⟨wo.heap.size, 0, none⟩) cnt cnt) (levelsOf plan) := by
              have e : levelsOf plan = fillTo plan cnt t := by
                unfold levelsOf fillTo levelRow
                rw [if_pos Hv.out, Hc.out, ← Hn.out]
              rw [e]
              exact hD.low hs1
            clear hD
            go_wp2_with fail
            go_ret
            exact ⟨_, rfl, hD2, gb_trans hg1 hg⟩
  · have hv' : planValid plan = false := by simpa using hv
    have Hv := Lib.hid hv'
    have Hr : Hid (levelsOf plan = []) := by show levelsOf plan = _; unfold levelsOf; rw [if_neg hv]
    clear hv hv'
    go_enter Try.func47, Try.ntmps47
    go_wp2_with fail
    refine (levelList_any _ plan _ h).mono ?_
    rintro e w1 ⟨v1, rfl, hg1, ho1⟩
    rw [Hv.out]
    obtain ⟨A1, n1, c1, rfl⟩ := ho1.ri.val
    clear ho1
    go_wp2_with fail
    go_ret
    exact ⟨_, rfl, by rw [Hr.out]; exact DL.nil _ _, hg1⟩
end Go.Proofs.Ytjlnhijabdkagaa
