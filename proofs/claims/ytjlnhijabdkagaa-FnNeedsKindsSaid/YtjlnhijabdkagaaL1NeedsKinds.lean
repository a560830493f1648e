/- Walks: laws.FnNeedsKinds. -/
import Derived.Test.YtjlnhijabdkagaaE1Draw
import Derived.Test.YtjlnhijabdkagaaD2Count
namespace Go.Proofs.Ytjlnhijabdkagaa
open Go.RowKit

/-- The sum of what the first k nodes' kinds need. -/
def ksum (plan : List Node) (k : Nat) : Int := ((plan.take k).map (fun x => kindNeeds x.kind)).sum
theorem ksum_eq {plan : List Node} (hv : planValid plan = true) (k : Nat) : ksum plan k = fsum plan k := by
  unfold ksum fsum
  congr 1
  apply List.map_congr_left
  intro nd hm
  obtain ⟨i, hi⟩ := List.mem_iff_getElem?.1 (List.mem_of_mem_take hm)
  have h1 := (planValid_node hv hi).1
  unfold nodeFits at h1
  simp only [Bool.and_eq_true, decide_eq_true_eq] at h1
  exact h1.1.1.2.symm

theorem fnNeedsKinds_any (w : World) (v : Value) (n : Nat) (h : Bytes w w.heap.size v n) (hn : n ≤ 9223372036854775807) :
    Calls Try.prog 3 #[v] w fun e w' => e = .returned (.bool true) ∧ w.grownBy w' none := by
  obtain ⟨A, c, rfl, h2⟩ := id h
  have H := Lib.hid h
  clear h h2
  by_cases hbig : 1048576 < n
  · go_enter Try.func3, Try.ntmps3
    go_wp2_with fail
    go_ret
    exact ⟨rfl, gb_refl _ _⟩
  · go_enter Try.func3, Try.ntmps3
    go_wp2_with fail
    refine (drawCountNeeds_any _ _ n H.out (by omega)).mono ?_
    rintro e w1 ⟨v1, plan, rfl, hv1, hs1, hg1⟩
    obtain ⟨A1, n1, c1, rfl, hc1, hn1, hm1⟩ := hv1.form'
    have Hn1 := Lib.hid hn1
    have Hs := Lib.hid hs1
    have hn11 : n1 ≤ 11 := by rw [hn1]; exact hs1.1
    clear hn1 hs1
    go_wp2_with fail
    refine (implCountNeeds_any _ plan _ hv1).mono ?_
    rintro e w2 ⟨rfl, hg2⟩
    have hv2 := hv1.new hg2
    have hg12 := gb_trans hg1 hg2
    clear hg1 hg2 hv1
    go_wp2_with fail
    refine (specCountNeeds_any _ plan _ hv2 (by have := Hs.out.1; omega)).mono ?_
    rintro e w3 ⟨rfl, hg3⟩
    have hv3 := hv2.new hg3
    have hg := gb_trans hg12 hg3
    clear hg12 hg3 hv2
    by_cases hv : planValid plan = true
    · have Hv := Lib.hid hv
      have h0 : 0 ≤ countNeeds plan := by rw [← fsum_all hv]; exact (fsum_bound hv _).1
      have Hc : Hid (countNeeds plan = fsum plan n1) := by show _ = _; rw [← fsum_all hv, ← Hn1.out]
      clear hv
      generalize countNeeds plan = z at *
      go_wp2_with fail
      go_loopw [6, 7] (fun s i wr => ∃ (k : Nat) (y : Int), k ≤ n1 ∧ i = .int .i64 k ∧ s = .int .i64 y ∧ 0 ≤ y ∧ y ≤ 2 * k ∧ Hid (y = fsum plan k) ∧ w3.grownBy wr none) (fun _ i _ => n1 - (intOf i).toNat)
      case atStart => exact ⟨0, 0, Nat.zero_le _, rfl, rfl, by omega, by omega, by show (0 : Int) = _; simp [fsum], gb_refl _ _⟩
      case round =>
        obtain ⟨k, y, hk, rfl, rfl, hy0, hy1, Hy, hgw⟩ := hrel
        have hvw := hv3.new hgw
        by_cases hlt : k < n1
        · obtain ⟨g, o, nd, f, r, rfl, hx, c0, c1, c2, hf, hr⟩ := hvw.at_ hlt
          have hk2 := kindNeeds_le nd.kind
          have Hy2 : Hid (y + kindNeeds nd.kind = fsum plan (k + 1)) := by
            show _ = _
            have h1 := (planValid_node Hv.out hx).1
            unfold nodeFits at h1
            simp only [Bool.and_eq_true, decide_eq_true_eq] at h1
            rw [fsum_succ hx, ← Hy.out, h1.1.1.2]
          have hk0 : 0 ≤ kindNeeds nd.kind := by
            have h1 := (planValid_node Hv.out hx).1
            unfold nodeFits at h1
            simp only [Bool.and_eq_true, decide_eq_true_eq] at h1
            have := h1.1.1.2
            omega
          clear hx
          go_wp2_with fail
          refine (implKindNeeds_any _ _).mono ?_
          rintro e w4 ⟨rfl, hg4⟩
          generalize kindNeeds nd.kind = q at *
          go_wp2_with fail
          go_roundw
          case rel => exact ⟨k + 1, y + q, by omega, by go_num, rfl, by omega, by omega, Hy2, gb_trans hgw hg4⟩
          case measure => simp [intOf]; omega
        · obtain rfl : k = n1 := by omega
          obtain rfl : y = z := by rw [Hy.out, Hc.out]
          go_wp2_with fail
          go_ret
          exact ⟨rfl, gb_trans hg hgw⟩
    · have Hr : countNeeds plan = -1 := by unfold countNeeds; rw [if_neg hv]
      rw [Hr]
      clear Hr
      go_wp2_with fail
      go_ret
      exact ⟨rfl, hg⟩
end Go.Proofs.Ytjlnhijabdkagaa
