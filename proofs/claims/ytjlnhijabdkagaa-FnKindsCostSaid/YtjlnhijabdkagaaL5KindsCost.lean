/- Walks: laws.FnKindsCost. -/
import Derived.Test.YtjlnhijabdkagaaI1Costs
import Derived.Test.YtjlnhijabdkagaaH2IKinds
import Derived.IntWalk
namespace Go.Proofs.Ytjlnhijabdkagaa
open Go.RowKit

/-- The first k counts, each times what its kind costs. -/
def wsum (ks : List Int) (k : Nat) : Int := ((List.range k).map (fun j : Nat => (tally ks).getD j 0 * costKind j)).sum
theorem wsum_succ {ks : List Int} {k : Nat} {x : Int} (h : (tally ks)[k]? = some x) : wsum ks (k + 1) = wsum ks k + x * costKind k := by
  unfold wsum
  rw [List.range_succ, List.map_append, List.sum_append, List.map_singleton, List.sum_singleton, List.getD_eq_getElem?_getD, h]
  rfl
theorem wsum_all {plan : List Node} (hv : planValid plan = true) : wsum (plan.map (fun x => x.kind)) 6 = costAll plan := by
  have h1 := tally_weigh costKind _ (planValid_kinds hv)
  unfold costAll
  rw [if_pos hv]
  have e : wsum (plan.map (fun x => x.kind)) 6 = (tally (plan.map (fun x => x.kind))).getD 0 0 * costKind 0 + (tally (plan.map (fun x => x.kind))).getD 1 0 * costKind 1 + (tally (plan.map (fun x => x.kind))).getD 2 0 * costKind 2 + (tally (plan.map (fun x => x.kind))).getD 3 0 * costKind 3 + (tally (plan.map (fun x => x.kind))).getD 4 0 * costKind 4 + (tally (plan.map (fun x => x.kind))).getD 5 0 * costKind 5 := by
    unfold wsum
    simp only [List.range, List.range.loop, List.map_cons, List.map_nil, List.sum_cons, List.sum_nil]
    simp only [Int.add_assoc, Int.add_zero]
    rfl
  rw [e, h1, List.map_map]
  rfl

set_option maxHeartbeats 400000 in
theorem fnKindsCost_any (w : World) (v : Value) (n : Nat) (h : Bytes w w.heap.size v n) (hn : n ≤ 9223372036854775807) :
    Calls Try.prog 7 #[v] w fun e w' => e = .returned (.bool true) ∧ w.grownBy w' none := by
  obtain ⟨A, c, rfl, h2⟩ := id h
  have H := Lib.hid h
  clear h h2
  by_cases hbig : 1048576 < n
  · go_enter Try.func7, Try.ntmps7
    go_wp2_with fail
    go_ret
    exact ⟨rfl, gb_refl _ _⟩
  · go_enter Try.func7, Try.ntmps7
    go_wp2_with fail
    refine (drawCountKinds_any _ _ n H.out (by omega)).mono ?_
    rintro e w1 ⟨v1, plan, rfl, hv1, hs1, hg1⟩
    obtain ⟨A1, n1, c1, rfl, hc1, hn1, hm1⟩ := hv1.form'
    have Hn1 := Lib.hid hn1
    have Hs := Lib.hid hs1
    have hn11 : n1 ≤ 11 := by rw [hn1]; exact hs1.1
    clear hn1 hs1
    go_wp2_with fail
    refine (implCountKinds_any _ plan _ hv1).mono ?_
    rintro e w2 ⟨v2, rfl, ho2, hg2⟩
    have hv2 := hv1.new hg2
    have hg12 := gb_trans hg1 hg2
    obtain ⟨A2, n2, c2, rfl, hn2, hc2⟩ := ho2.slice
    have Hn2 := Lib.hid hn2
    clear hn2
    clear hg1 hg2 hv1
    go_wp2_with fail
    refine (specCountKinds_any _ plan _ hv2 (by have := Hs.out.1; omega)).mono ?_
    rintro e w3 ⟨v3, rfl, ho3, hg3⟩
    have hv3 := hv2.new hg3
    have ho23 := ho2.new hg3
    have hg := gb_trans hg12 hg3
    obtain ⟨A3, n3, c3, rfl, hn3, hc3⟩ := ho3.slice
    have Hn3 := Lib.hid hn3
    clear hn3
    clear hg12 hg3 hv2 ho2
    go_wp2_with fail
    refine (sameRow_any _ _ _ _ ho23.ri ho3.ri).mono ?_
    rintro e w4 ⟨rfl, hg4⟩
    have hv4 := hv3.new hg4
    have ho24 := ho23.new hg4
    have ho4 := ho3.new hg4
    have hg := gb_trans hg hg4
    clear hg4 hv3 ho23 ho3
    by_cases hv : planValid plan = true
    · have Hv := Lib.hid hv
      have hck : countKinds plan = tally (plan.map (fun x => x.kind)) := by unfold countKinds; rw [if_pos hv]
      have hn2 := Hn2.out
      have hn3 := Hn3.out
      clear Hn2 Hn3
      rw [hck] at ho24 ho4 hn2 hn3
      rw [tally_len] at hn2 hn3
      subst hn2 hn3
      have hn10 : n1 ≤ 10 := by have := planValid_len hv; rw [← Hn1.out] at this; exact this
      clear hv hck
      go_wp2_with fail
      go_loopw [6, 7] (fun s i wr => ∃ (k : Nat) (y : Int), k ≤ 6 ∧ i = .int .i64 k ∧ s = .int .i64 y ∧ 0 ≤ y ∧ y ≤ 40 * k ∧ Hid (y = wsum (plan.map (fun x => x.kind)) k) ∧ w4.grownBy wr none) (fun _ i _ => 6 - (intOf i).toNat)
      case atStart => exact ⟨0, 0, Nat.zero_le _, rfl, rfl, by omega, by omega, rfl, gb_refl _ _⟩
      case round =>
        obtain ⟨k, y, hk, rfl, rfl, hy0, hy1, Hy, hgw⟩ := hrel
        by_cases hlt : k < 6
        · obtain ⟨g, o, x, rfl, hx, c0⟩ := (ho24.new hgw).ri.at_ hlt
          have hb := tally_bound hx
          have hcb := costKind_bound (k := k) (by omega) (by omega)
          have Hy2 : Hid (y + x * costKind k = wsum (plan.map (fun x => x.kind)) (k + 1)) := by show _ = _; rw [wsum_succ hx, ← Hy.out]
          have hx0 := hb.1
          have hx1 : x ≤ 10 := by have := hb.2; rw [List.length_map, ← Hn1.out] at this; omega
          have hp0 : 0 ≤ x * costKind k := Int.mul_nonneg hx0 (by omega)
          have hp1 : x * costKind k ≤ 40 := by
            have := Int.mul_le_mul hx1 hcb.2 (by omega) (by omega)
            omega
          obtain ⟨hcb1, hcb2⟩ := hcb
          obtain ⟨p, hp⟩ : ∃ p, p = x * costKind k := ⟨_, rfl⟩
          have Hp := Lib.hid hp
          rw [← hp] at Hy2 hp0 hp1
          have e1 : IntKind.i64.wrap (x * costKind k) = p := by rw [← hp]; exact IntWalk.i64_in _ (by omega)
          have e2 : IntKind.i64.wrap (y + p) = y + p := IntWalk.i64_in _ (by omega)
          clear hx hb hp
          go_wp2_with fail
          go_quiet ((go_at_call 35; exact quiet_l (implCostKind_any _ _)))
          go_wp2_with fail
          go_roundw
          case rel => exact ⟨k + 1, y + p, by omega, by go_num, by first | rfl | (rw [← Hp.out]; go_num), by omega, by omega, Hy2, gb_drewN hgw _⟩
          case measure => simp [intOf]; omega
        · obtain rfl : k = 6 := by omega
          have hyn : y = costAll plan := by rw [Hy.out, wsum_all Hv.out]
          subst hyn
          clear Hy
          go_wp2_with fail
          refine (implCostAll_any _ plan _ (hv4.new hgw)).mono ?_
          rintro e w5 ⟨rfl, hg5⟩
          go_wp2_with fail
          go_ret
          exact ⟨rfl, gb_trans (gb_trans hg hgw) hg5⟩
    · have Hr : countKinds plan = [] := by unfold countKinds; rw [if_neg hv]
      have hn2 := Hn2.out
      have hn3 := Hn3.out
      clear Hn2 Hn3
      rw [Hr] at hn2 hn3 ho24 ho4
      clear Hr
      obtain rfl : n2 = 0 := hn2
      obtain rfl : n3 = 0 := hn3
      go_wp2_with fail
      refine (sameRow_any _ _ _ _ ho24.ri ho4.ri).mono ?_
      rintro e w5 ⟨rfl, hg5⟩
      go_wp2_with fail
      go_ret
      exact ⟨rfl, gb_trans hg hg5⟩
end Go.Proofs.Ytjlnhijabdkagaa
