/- Walks: spec.l6In, spec.RowValid. -/
import Derived.Test.YthampfkicnakgaaGreatDoorA1Base
import Derived.Test.YthampfkicnakgaaGreatDoorA2Pure
namespace Go.Proofs.YthampfkicnakgaaGreatDoor
open Go.RowKit

theorem l6In_any (n a b : Int) (w : World) :
    Calls Tryz.prog 55 #[.int .i64 n, .int .i64 a, .int .i64 b] w fun e w' => e = .returned (.bool (decide (a ≤ n) && decide (n ≤ b))) ∧ w = w' := by
  by_cases h : a ≤ n
  · rw [show (decide (a ≤ n) && decide (n ≤ b)) = decide (n ≤ b) by simp [h]]
    go_enter Tryz.func55, Tryz.ntmps55
    go_wp2
    go_ret
    exact ⟨rfl, rfl⟩
  · rw [show (decide (a ≤ n) && decide (n ≤ b)) = false by simp [h]]
    go_enter Tryz.func55, Tryz.ntmps55
    go_wp2
    go_ret
    exact ⟨rfl, rfl⟩

theorem specRowValid_any (v : Value) (l : List Int) (w : World) (h : RI w v l) :
    Calls Tryz.prog 29 #[v] w fun e w' => e = .returned (.bool (rowValid l)) ∧ w = w' := by
  obtain ⟨A, n, c, rfl, hc, hn⟩ := h.form'
  have hle := h.le
  rw [← hn] at hle
  have Hn := Lib.hid hn
  clear hn
  go_enter Tryz.func29, Tryz.ntmps29
  go_wp2
  go_loop [3] (fun i => ∃ k : Nat, k ≤ n ∧ i = .int .i64 k ∧ (l.take k).all inRow = true) (fun i => n - (intOf i).toNat)
  case atStart => exact ⟨0, Nat.zero_le _, rfl, rfl⟩
  case round =>
    obtain ⟨k, hk, rfl, hall⟩ := hrel
    have Hall := Lib.hid hall
    clear hall
    by_cases hlt : k < n
    · obtain ⟨g, o, x, rfl, hx, hcell⟩ := h.at_ hlt
      have Hx := Lib.hid hx
      clear hx
      go_wp2_with fail
      refine (l6In_any _ _ _ _).mono ?_
      rintro e w' ⟨rfl, rfl⟩
      by_cases hin : inRow x = true
      · have Hin := Lib.hid hin
        have hb : (decide ((0 : Int) ≤ x) && decide (x ≤ (1008 : Int))) = true := hin
        rw [hb]
        clear hin hb
        go_wp2_with fail
        go_round
        case rel => exact ⟨k + 1, by omega, by go_num, by rw [all_snoc _ Hx.out, Hall.out, Hin.out]; rfl⟩
        case measure => simp [intOf]; omega
      · have hb : (decide ((0 : Int) ≤ x) && decide (x ≤ (1008 : Int))) = false := by simpa [inRow] using hin
        have Hr : Hid (rowValid l = false) := by
          show rowValid l = false
          unfold rowValid
          rw [Bool.and_eq_false_iff]
          left
          rw [List.all_eq_false]
          exact ⟨x, List.mem_of_getElem? Hx.out, hin⟩
        rw [hb]
        clear hin hb
        go_wp2_with fail
        go_ret
        exact ⟨by rw [Hr.out]; rfl, rfl⟩
    · have hkn : k = n := by omega
      have Hr : Hid (rowValid l = decide ((n : Int) ≤ 6)) := by
        show rowValid l = decide ((n : Int) ≤ 6)
        have h1 := Hall.out
        rw [hkn, Hn.out, List.take_length] at h1
        rw [rowValid, h1, Hn.out, Bool.true_and]
        exact decide_eq_decide.2 (by omega)
      clear hkn
      go_wp2_with fail
      go_ret
      exact ⟨by rw [Hr.out]; rfl, rfl⟩
theorem specRowValid_b (v : Value) (l : List Int) (w : World) (h : RI w v l) {b : Bool} (hb : rowValid l = b) :
    Calls Tryz.prog 29 #[v] w fun e w' => e = .returned (.bool b) ∧ w = w' := hb ▸ specRowValid_any v l w h
theorem l6In_b (n a b : Int) (w : World) {c : Bool} (hc : (decide (a ≤ n) && decide (n ≤ b)) = c) :
    Calls Tryz.prog 55 #[.int .i64 n, .int .i64 a, .int .i64 b] w fun e w' => e = .returned (.bool c) ∧ w = w' := hc ▸ l6In_any n a b w

theorem specKindValid_any (k : Int) (w : World) :
    Calls Tryz.prog 90 #[.int .i64 k] w fun e w' => e = .returned (.bool (kindValid k)) ∧ w = w' := by
  go_enter Tryz.func90, Tryz.ntmps90
  go_wp2_with fail
  refine (l6In_any _ _ _ _).mono ?_
  rintro e w' ⟨rfl, rfl⟩
  go_wp2_with fail
  go_ret
  exact ⟨rfl, rfl⟩

theorem specKindNeeds_any (k : Int) (w : World) :
    Calls Tryz.prog 69 #[.int .i64 k] w fun e w' => e = .returned (.int .i64 (kindNeeds k)) ∧ w = w' := by
  by_cases hk : k < 0 ∨ 5 < k
  · have hv : kindValid k = false := by
      unfold kindValid
      simp only [Bool.and_eq_false_iff, decide_eq_false_iff_not]
      omega
    have H : Hid (kindNeeds k = -1) := by show kindNeeds k = -1; unfold kindNeeds; rw [if_pos hk]
    clear hk
    go_enter Tryz.func69, Tryz.ntmps69
    go_wp2_with fail
    refine (specKindValid_any _ _).mono ?_
    rw [hv]
    clear hv
    rintro e w' ⟨rfl, rfl⟩
    go_wp2_with fail
    go_ret
    exact ⟨by rw [H.out]; rfl, rfl⟩
  · rcases (show k = 0 ∨ k = 1 ∨ k = 2 ∨ k = 3 ∨ k = 4 ∨ k = 5 by omega) with rfl | rfl | rfl | rfl | rfl | rfl
    all_goals
      clear hk
      go_enter Tryz.func69, Tryz.ntmps69
      go_wp2_with fail
      refine (specKindValid_any _ _).mono ?_
      rintro e w' ⟨rfl, rfl⟩
      go_wp2_with fail
      go_ret
      exact ⟨rfl, rfl⟩
end Go.Proofs.YthampfkicnakgaaGreatDoor
