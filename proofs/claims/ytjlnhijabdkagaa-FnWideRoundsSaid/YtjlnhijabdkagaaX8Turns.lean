/- Walks: impl.workersFit, impl.ScheduleTurns where there are workers enough. -/
import Derived.Test.YtjlnhijabdkagaaX7Ready
namespace Go.Proofs.Ytjlnhijabdkagaa
open Go.RowKit

theorem workersFit_b (k : Int) (w : World) {b : Bool} (hb : (decide (1 ≤ k) && decide (k ≤ 4)) = b) :
    Calls Try.prog 97 #[.int .i64 k] w fun e w' => e = .returned (.bool b) ∧ w = w' := by
  subst hb
  by_cases h0 : 1 ≤ k
  · by_cases h1 : k ≤ 4
    · rw [decide_eq_true h0, decide_eq_true h1]
      go_enter Try.func97, Try.ntmps97
      go_wp2_with fail
      go_ret
      exact ⟨rfl, rfl⟩
    · rw [decide_eq_true h0, decide_eq_false h1]
      go_enter Try.func97, Try.ntmps97
      go_wp2_with fail
      go_ret
      exact ⟨rfl, rfl⟩
  · rw [decide_eq_false h0]
    go_enter Try.func97, Try.ntmps97
    go_wp2_with fail
    go_ret
    exact ⟨by simp, rfl⟩
set_option maxHeartbeats 400000 in
theorem turns_any (v : Value) (plan : List Node) (k : Int) (w : World) (h : RN w v plan) (hv : planValid plan = true) (hk1 : 1 ≤ k) (hk4 : k ≤ 4) (hwide : countWide plan ≤ k) :
    Calls Try.prog 55 #[v, .int .i64 k] w fun e w' => e = .returned (.tuple #[.int .i64 (levelCount plan : Nat), .bool true]) ∧ w.grownBy w' none := by
  obtain ⟨A, n, c, rfl, -, hn, -⟩ := h.form'
  have hn10 : n ≤ 10 := by have := planValid_len hv; omega
  have hlc := levelCount_le hv
  rw [← hn] at hlc
  have Hn := Lib.hid hn
  have Hv := Lib.hid hv
  have Hw : Hid (∀ r, ((levelRow plan r).length : Int) ≤ k) := by
    intro r
    have := (countWide_is hv).1 r
    rw [← levelRow_onLevel] at this
    omega
  clear hn hv hwide
  go_enter Try.func55, Try.ntmps55
  go_wp2_with fail
  refine (implPlanValid_b _ plan _ h Hv.out).mono ?_
  rintro e w1 ⟨rfl, hg1⟩
  go_wp2_with fail
  refine (workersFit_b k _ (b := true) (by simp; omega)).mono ?_
  rintro e w2 ⟨rfl, rfl⟩
  go_wp2_with fail
  go_loopg [6, 7] (n + 1) (fun mm d i wr => ∃ r : Nat, r ≤ levelCount plan ∧ mm = n + 1 - r ∧ i = .int .i64 r ∧ QI wr w.heap.size d (doneTo plan r) ∧ w.grownBy wr none)
  case atStart => exact ⟨0, Nat.zero_le _, rfl, rfl, QI.nil _ _, hg1⟩
  case round =>
    clear hg1
    obtain ⟨r, hr, rfl, rfl, hq, hg⟩ := hrel
    obtain ⟨Ad, nd, cd, rfl, hnd, -⟩ := hq.slice
    by_cases hlt : r < levelCount plan
    · have hdl := doneTo_lt Hv.out hlt
      rw [← hnd, ← Hn.out] at hdl
      have Hnd := Lib.hid hnd
      clear hnd
      go_wp2_with fail
      refine (readyOf_any _ _ plan _ _ (h.new hg) hq.ri Hv.out).mono ?_
      rintro e w3 ⟨v3, rfl, ho3, hg3⟩
      rw [ready_level Hv.out r] at ho3
      obtain ⟨A3, n3, c3, rfl, hc3, hn3⟩ := ho3.ri.form'
      have hle : (n3 : Int) ≤ k := by rw [hn3]; exact Hw.out r
      have hr3 := ho3.ri
      have hq3 := hq.new hg3
      have hg4 := gb_trans hg hg3
      have Hds := Lib.hid (doneTo_succ plan r)
      have hl2 : (doneTo plan r).length + (levelRow plan r).length ≤ 1000 := by
        have h1 := levelRow_len (plan := plan) r
        have h2 := Hnd.out
        have h3 := Hn.out
        omega
      have Hn3 := Lib.hid hn3
      clear hn3 ho3 hq hg hg3
      have hcase : (n3 : Int) < k ∨ k = (n3 : Int) := by omega
      rcases hcase with hc | rfl
      all_goals
        go_wp2_with (at_builtin; go_must (refine wp_append_ints (.tmp 25) (.tmp 31) rfl rfl hq3 hr3 (by omega) hg4.size rfl rfl ?_))
        intro v' w4 hq4 hg5 _
        have hg6 := hq3.gb hg4 hg5 (Nat.le_refl _)
        rw [← Hds.out] at hq4
        go_wp2_with fail
        go_roundg (n + 1 - (r + 1))
        case measure => omega
        case rel => exact ⟨r + 1, by omega, rfl, by go_num, hq4, hg6⟩
    · obtain rfl : r = levelCount plan := by omega
      have hdl := doneTo_all Hv.out
      rw [← hnd, ← Hn.out] at hdl
      subst hdl
      clear hnd
      go_wp2_with fail
      go_ret2
      exact ⟨rfl, hg⟩
end Go.Proofs.Ytjlnhijabdkagaa
