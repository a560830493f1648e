/- Walks: spec.DrawCountKinds, spec.DrawCountWide, laws.sameRow, impl.CostKind, impl.CostAll. -/
import Derived.Test.YtjlnhijabdkagaaE1Draw
import Derived.Test.YtjlnhijabdkagaaA5Counts
import Derived.Test.YtjlnhijabdkagaaC6GraphOf
import Derived.Test.YtjlnhijabdkagaaE2Args
namespace Go.Proofs.Ytjlnhijabdkagaa
open Go.RowKit

theorem drawCountKinds_any (w : World) (v : Value) (n : Nat) (h : Bytes w w.heap.size v n) (hn : n ≤ 1048576) : Calls Try.prog 27 #[v] w (DrawPlan w) := by
  obtain ⟨A, c, rfl, h2⟩ := id h
  go_enter Try.func27, Try.ntmps27
  go_wp2_with fail
  refine (l6Open_any _ _ n (by exact h) hn).mono ?_
  rintro e w1 ⟨rb, rfl, hrd, hg⟩
  go_wp2_with fail
  refine (l91Plan_any w.heap.size rb 0 _ (by exact hrd) (by omega) (by omega)).mono ?_
  rintro e w2 ⟨v2, plan, rfl, hv, hs, p', hp0, hp1, hrd', hg'⟩
  obtain ⟨A2, n2, c2, rfl⟩ := hv.val
  go_wp2_with fail
  go_ret
  exact ⟨_, plan, rfl, hv, hs, gb_new hg hg' (fun g e => by cases e; exact .inl hrd.le)⟩
theorem drawCountWide_any (w : World) (v : Value) (n : Nat) (h : Bytes w w.heap.size v n) (hn : n ≤ 1048576) : Calls Try.prog 44 #[v] w (DrawPlan w) := by
  obtain ⟨A, c, rfl, h2⟩ := id h
  go_enter Try.func44, Try.ntmps44
  go_wp2_with fail
  refine (l6Open_any _ _ n (by exact h) hn).mono ?_
  rintro e w1 ⟨rb, rfl, hrd, hg⟩
  go_wp2_with fail
  refine (l91Plan_any w.heap.size rb 0 _ (by exact hrd) (by omega) (by omega)).mono ?_
  rintro e w2 ⟨v2, plan, rfl, hv, hs, p', hp0, hp1, hrd', hg'⟩
  obtain ⟨A2, n2, c2, rfl⟩ := hv.val
  go_wp2_with fail
  go_ret
  exact ⟨_, plan, rfl, hv, hs, gb_new hg hg' (fun g e => by cases e; exact .inl hrd.le)⟩
/-- Two rows that read alike are the same. -/
theorem sameRow_any (v v' : Value) (l : List Int) (w : World) (h : RI w v l) (h' : RI w v' l) : Calls Try.prog 30 #[v, v'] w fun e w' => e = .returned (.bool true) ∧ w.grownBy w' none := by
  obtain ⟨A, n, c, rfl, h2, h3⟩ := h.form'
  obtain ⟨A', n', c', rfl, h2', h3'⟩ := h'.form'
  have hle := h.le
  obtain rfl : n = n' := by omega
  have hn : n ≤ 9223372036854775807 := by omega
  clear h3 h3' hle
  go_enter Try.func30, Try.ntmps30
  go_wp2_with fail
  go_loopw [5] (fun i wr => ∃ k : Nat, k ≤ n ∧ i = .int .i64 k ∧ w.grownBy wr none) (fun i _ => n - (intOf i).toNat)
  case atStart => exact ⟨0, Nat.zero_le _, rfl, gb_refl _ _⟩
  case round =>
    obtain ⟨k, hk, rfl, hg⟩ := hrel
    have hw := h.new hg
    have hw' := h'.new hg
    by_cases hlt : k < n
    · obtain ⟨g, o, x, rfl, hx, c0⟩ := hw.at_ hlt
      obtain ⟨g', o', x', rfl, hx', c1⟩ := hw'.at_ hlt
      obtain rfl : x = x' := by rw [hx] at hx'; injection hx'
      clear hx hx'
      go_wp2_with fail
      go_quiet (fail)
      go_wp2_with fail
      go_roundw
      case rel => exact ⟨k + 1, by omega, by go_num, gb_drewN hg _⟩
      case measure => simp [intOf]; omega
    · go_wp2_with fail
      go_ret
      exact ⟨rfl, hg⟩
theorem implCostKind_any (k : Int) (w : World) : Calls Try.prog 35 #[.int .i64 k] w fun e w' => e = .returned (.int .i64 (costKind k)) ∧ w = w' := by
  by_cases hk : k < 0 ∨ 5 < k
  · have hv : kindValid k = false := by
      unfold kindValid
      simp only [Bool.and_eq_false_iff, decide_eq_false_iff_not]
      omega
    rw [show costKind k = -1 by unfold costKind; rw [if_pos hk]]
    clear hk
    go_enter Try.func35, Try.ntmps35
    go_wp2_with fail
    refine (implKindValid_b _ _ hv).mono ?_
    rintro e w' ⟨rfl, rfl⟩
    clear hv
    go_wp2_with fail
    go_ret
    exact ⟨rfl, rfl⟩
  · rcases (show k = 0 ∨ k = 1 ∨ k = 2 ∨ k = 3 ∨ k = 4 ∨ k = 5 by omega) with rfl | rfl | rfl | rfl | rfl | rfl
    all_goals
      clear hk
      go_enter Try.func35, Try.ntmps35
      go_wp2_with fail
      refine (implKindValid_b _ _ (b := true) rfl).mono ?_
      rintro e w' ⟨rfl, rfl⟩
      go_wp2_with fail
      go_ret
      exact ⟨rfl, rfl⟩
theorem implCostAll_any (v : Value) (plan : List Node) (w : World) (h : RN w v plan) :
    Calls Try.prog 36 #[v] w fun e w' => e = .returned (.int .i64 (costAll plan)) ∧ w.grownBy w' none := by
  obtain ⟨A, n, c, rfl, hc, hn, hm⟩ := h.form'
  have Hn := Lib.hid hn
  clear hn
  by_cases hv : planValid plan = true
  · have Hv := Lib.hid hv
    have hn10 : n ≤ 10 := by have := planValid_len hv; rw [← Hn.out] at this; exact this
    have Hr : Hid (costAll plan = ((plan.take n).map (fun x => costKind x.kind)).sum) := by
      show costAll plan = _
      unfold costAll
      rw [if_pos hv, List.take_of_length_le (by rw [← Hn.out]; omega)]
    clear hv
    go_enter Try.func36, Try.ntmps36
    go_wp2_with fail
    refine (implPlanValid_b _ plan _ h Hv.out).mono ?_
    rintro e w1 ⟨rfl, hg1⟩
    go_wp2_with fail
    go_loopw [3, 11] (fun s i wr => ∃ (k : Nat) (z : Int), k ≤ n ∧ i = .int .i64 k ∧ s = .int .i64 z ∧ 0 ≤ z ∧ z ≤ 4 * k ∧ Hid (z = ((plan.take k).map (fun x => costKind x.kind)).sum) ∧ w.grownBy wr none) (fun _ i _ => n - (intOf i).toNat)
    case atStart => exact ⟨0, 0, Nat.zero_le _, rfl, rfl, by omega, by omega, rfl, hg1⟩
    case round =>
      obtain ⟨k, z, hk, rfl, rfl, hz0, hz1, Hz, hg⟩ := hrel
      by_cases hlt : k < n
      · obtain ⟨g, o, nd, f, r, rfl, hx, c0, c1, c2, hf, hr⟩ := (h.new hg).at_ hlt
        obtain ⟨hk0, hk5⟩ := planValid_kind Hv.out hx
        have hcb := costKind_bound hk0 hk5
        obtain ⟨hx1, hx2⟩ := List.getElem?_eq_some_iff.1 hx
        have Hz2 : Hid (z + costKind nd.kind = ((plan.take (k + 1)).map (fun x => costKind x.kind)).sum) := by
          show _ = _
          rw [List.take_succ_eq_append_getElem hx1, List.map_append, List.sum_append, ← Hz.out, List.map_singleton, List.sum_singleton, hx2]
        obtain ⟨Af, nf, cf, rfl⟩ := hf.val
        obtain ⟨Ar, nr, cr, rfl⟩ := hr.val
        clear hx hx1 hx2 hf hr
        go_wp2_with fail
        refine (implCostKind_any _ _).mono ?_
        rintro e w2 ⟨rfl, rfl⟩
        obtain ⟨hcb1, hcb2⟩ := hcb
        generalize costKind nd.kind = q at *
        go_wp2_with fail
        go_roundw
        case rel => exact ⟨k + 1, z + q, by omega, by go_num, rfl, by omega, by omega, Hz2, gb_alloc hg _⟩
        case measure => simp [intOf]; omega
      · obtain rfl : k = n := by omega
        go_wp2_with fail
        go_ret
        exact ⟨by rw [Hr.out, ← Hz.out]; rfl, hg⟩
  · have hv' : planValid plan = false := by simpa using hv
    have Hv := Lib.hid hv'
    have Hr : Hid (costAll plan = -1) := by show costAll plan = _; unfold costAll; rw [if_neg hv]
    clear hv hv'
    go_enter Try.func36, Try.ntmps36
    go_wp2_with fail
    refine (implPlanValid_b _ plan _ h Hv.out).mono ?_
    rintro e w1 ⟨rfl, hg1⟩
    go_wp2_with fail
    go_ret
    exact ⟨by rw [Hr.out]; rfl, hg1⟩
end Go.Proofs.Ytjlnhijabdkagaa
