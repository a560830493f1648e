/- Walks: laws.FnNeedsUsed. -/
import Derived.Test.YtjlnhijabdkagaaE1Draw
import Derived.Test.YtjlnhijabdkagaaD2Count
import Derived.Test.YtjlnhijabdkagaaG2Uses
namespace Go.Proofs.Ytjlnhijabdkagaa
open Go.RowKit

theorem ulen_mono {k N : Nat} (L : Nat → List Nat) (h : k ≤ N) : ulen k L ≤ ulen N L := by
  induction N with
  | zero =>
    obtain rfl : k = 0 := by omega
    exact Nat.le_refl _
  | succ N ih =>
    by_cases hk : k = N + 1
    · subst hk; exact Nat.le_refl _
    · rw [ulen_succ]
      have := ih (by omega)
      omega

set_option maxHeartbeats 400000 in
theorem fnNeedsUsed_any (w : World) (v : Value) (n : Nat) (h : Bytes w w.heap.size v n) (hn : n ≤ 9223372036854775807) :
    Calls Try.prog 5 #[v] w fun e w' => e = .returned (.bool true) ∧ w.grownBy w' none := by
  obtain ⟨A, c, rfl, h2⟩ := id h
  have H := Lib.hid h
  clear h h2
  by_cases hbig : 1048576 < n
  · go_enter Try.func5, Try.ntmps5
    go_wp2_with fail
    go_ret
    exact ⟨rfl, gb_refl _ _⟩
  · go_enter Try.func5, Try.ntmps5
    go_wp2_with fail
    refine (drawCountNeeds_any _ _ n H.out (by omega)).mono ?_
    rintro e w1 ⟨v1, plan, rfl, hv1, hs1, hg1⟩
    obtain ⟨A1, n1, c1, rfl, hc1, hn1, hm1⟩ := hv1.form'
    have Hn1 := Lib.hid hn1
    have Hs := Lib.hid hs1
    have hn11 : n1 ≤ 11 := by rw [hn1]; exact hs1.1
    clear hn1 hs1
    go_wp2_with fail
    refine (implCountNeeds_any _ plan _ hv1).mono ?_
    rintro e w2 ⟨rfl, hg2⟩
    have hv2 := hv1.new hg2
    have hg12 := gb_trans hg1 hg2
    clear hg1 hg2 hv1
    go_wp2_with fail
    refine (specCountNeeds_any _ plan _ hv2 (by have := Hs.out.1; omega)).mono ?_
    rintro e w3 ⟨rfl, hg3⟩
    have hv3 := hv2.new hg3
    have hg := gb_trans hg12 hg3
    clear hg12 hg3 hv2
    by_cases hv : planValid plan = true
    · have Hv := Lib.hid hv
      have h0 : 0 ≤ countNeeds plan := by rw [← fsum_all hv]; exact (fsum_bound hv _).1
      have hb := graphTo_ulen hv (Nat.le_refl plan.length)
      rw [fsum_all hv] at hb
      have hb2 := (fsum_bound hv plan.length).2
      rw [fsum_all hv] at hb2
      have Hc : Hid ((ulen n1 (graphL plan) : Int) ≤ countNeeds plan ∧ countNeeds plan ≤ 2 * ulen n1 (graphL plan)) := by
        show (ulen n1 (graphL plan) : Int) ≤ countNeeds plan ∧ countNeeds plan ≤ 2 * ulen n1 (graphL plan)
        rw [Hn1.out]
        exact hb
      have hz : countNeeds plan ≤ 22 := by rw [← Hn1.out] at hb2; omega
      clear hv hb hb2
      generalize countNeeds plan = z at *
      go_wp2_with fail
      go_loopw [6, 7] (fun s i wr => ∃ k y : Nat, k ≤ n1 ∧ i = .int .i64 k ∧ s = .int .i64 y ∧ y ≤ 22 ∧ Hid (y = ulen k (graphL plan)) ∧ w3.grownBy wr none) (fun _ i _ => n1 - (intOf i).toNat)
      case atStart => exact ⟨0, 0, Nat.zero_le _, rfl, rfl, by omega, rfl, gb_refl _ _⟩
      case round =>
        obtain ⟨k, y, hk, rfl, rfl, hy, Hy, hgw⟩ := hrel
        have hvw := hv3.new hgw
        by_cases hlt : k < n1
        · go_wp2_with fail
          refine (planUses_any _ plan k _ hvw Hv.out (by rw [← Hn1.out]; exact hlt)).mono ?_
          rintro e w4 ⟨v4, rfl, ho4, hg4⟩
          have Hq : Hid (y + (graphL plan (2 * k + 2)).length = ulen (k + 1) (graphL plan)) := by
            show _ = _
            rw [ulen_succ, ← Hy.out]
          have hq : y + (graphL plan (2 * k + 2)).length ≤ 22 := by
            have h1 := ulen_mono (graphL plan) (show k + 1 ≤ n1 by omega)
            have h2 := Hc.out.1
            rw [Hq.out]
            omega
          obtain ⟨A4, n4, c4, rfl, -, hn4⟩ := ho4.ri.form'
          rw [List.length_map] at hn4
          rw [← hn4] at hq Hq
          clear hn4 ho4
          go_wp2_with fail
          go_roundw
          case rel => exact ⟨k + 1, y + n4, by omega, by go_num, by go_num, hq, Hq, gb_trans hgw hg4⟩
          case measure => simp [intOf]; omega
        · obtain rfl : k = n1 := by omega
          have h1 := Hc.out
          rw [← Hy.out] at h1
          obtain ⟨h2, h3⟩ := h1
          go_wp2_with fail
          go_ret
          exact ⟨rfl, gb_trans hg hgw⟩
    · have Hr : countNeeds plan = -1 := by unfold countNeeds; rw [if_neg hv]
      rw [Hr]
      clear Hr
      go_wp2_with fail
      go_ret
      exact ⟨rfl, hg⟩
end Go.Proofs.Ytjlnhijabdkagaa
