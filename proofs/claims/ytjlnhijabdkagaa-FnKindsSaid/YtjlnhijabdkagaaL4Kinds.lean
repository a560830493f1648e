/- Walks: laws.FnKinds. -/
import Derived.Test.YtjlnhijabdkagaaI1Costs
import Derived.Test.YtjlnhijabdkagaaH2IKinds
namespace Go.Proofs.Ytjlnhijabdkagaa
open Go.RowKit

/-- The sum of the first k counts. -/
def tsum (ks : List Int) (k : Nat) : Int := ((tally ks).take k).sum
theorem tsum_succ {ks : List Int} {k : Nat} {x : Int} (h : (tally ks)[k]? = some x) : tsum ks (k + 1) = tsum ks k + x := by
  obtain ⟨hk, rfl⟩ := List.getElem?_eq_some_iff.1 h
  unfold tsum
  rw [List.take_succ_eq_append_getElem hk, List.sum_append, List.sum_singleton]
theorem tsum_all (ks : List Int) (h : ∀ k ∈ ks, 0 ≤ k ∧ k ≤ 5) : tsum ks 6 = ks.length := by
  have h1 := tally_weigh (fun _ => 1) ks h
  have h2 := tally_len ks
  unfold tsum
  match tally ks, h2, h1 with
  | [a, b, c, d, e, f], _, h1 =>
    have h3 : ∀ l : List Int, (l.map (fun _ => (1 : Int))).sum = l.length := by
      intro l
      induction l with
      | nil => rfl
      | cons y ys ih => rw [List.map_cons, List.sum_cons, ih, List.length_cons]; omega
    rw [h3] at h1
    simp at h1 ⊢
    omega
theorem tally_first {plan : List Node} (hv : planValid plan = true) : ∃ x, (tally (plan.map (fun x => x.kind)))[0]? = some x ∧ (plan.length = 0 → x = 0) ∧ (0 < plan.length → 0 < x) := by
  refine ⟨_, tally_get _ (by omega), fun h => ?_, fun h => ?_⟩
  · rw [List.eq_nil_of_length_eq_zero h]
    rfl
  · have h1 := planValid_first hv (List.getElem?_eq_getElem h)
    have : 0 < (plan.map (fun x => x.kind)).countP (fun k => k == ((0 : Nat) : Int)) := by
      rw [List.countP_pos_iff]
      exact ⟨plan[0].kind, List.mem_map.2 ⟨_, List.getElem_mem h, rfl⟩, by simp [h1]⟩
    omega

set_option maxHeartbeats 400000 in
theorem fnKinds_any (w : World) (v : Value) (n : Nat) (h : Bytes w w.heap.size v n) (hn : n ≤ 9223372036854775807) :
    Calls Try.prog 4 #[v] w fun e w' => e = .returned (.bool true) ∧ w.grownBy w' none := by
  obtain ⟨A, c, rfl, h2⟩ := id h
  have H := Lib.hid h
  clear h h2
  by_cases hbig : 1048576 < n
  · go_enter Try.func4, Try.ntmps4
    go_wp2_with fail
    go_ret
    exact ⟨rfl, gb_refl _ _⟩
  · go_enter Try.func4, Try.ntmps4
    go_wp2_with fail
    refine (drawCountKinds_any _ _ n H.out (by omega)).mono ?_
    rintro e w1 ⟨v1, plan, rfl, hv1, hs1, hg1⟩
    obtain ⟨A1, n1, c1, rfl, hc1, hn1, hm1⟩ := hv1.form'
    have Hn1 := Lib.hid hn1
    have Hs := Lib.hid hs1
    have hn11 : n1 ≤ 11 := by rw [hn1]; exact hs1.1
    clear hn1 hs1
    go_wp2_with fail
    refine (implCountKinds_any _ plan _ hv1).mono ?_
    rintro e w2 ⟨v2, rfl, ho2, hg2⟩
    have hv2 := hv1.new hg2
    have hg12 := gb_trans hg1 hg2
    obtain ⟨A2, n2, c2, rfl, hn2, hc2⟩ := ho2.slice
    have Hn2 := Lib.hid hn2
    clear hn2
    clear hg1 hg2 hv1
    go_wp2_with fail
    refine (specCountKinds_any _ plan _ hv2 (by have := Hs.out.1; omega)).mono ?_
    rintro e w3 ⟨v3, rfl, ho3, hg3⟩
    have hv3 := hv2.new hg3
    have ho23 := ho2.new hg3
    have hg := gb_trans hg12 hg3
    obtain ⟨A3, n3, c3, rfl, hn3, hc3⟩ := ho3.slice
    have Hn3 := Lib.hid hn3
    clear hn3
    clear hg12 hg3 hv2 ho2
    go_wp2_with fail
    refine (sameRow_any _ _ _ _ ho23.ri ho3.ri).mono ?_
    rintro e w4 ⟨rfl, hg4⟩
    have hv4 := hv3.new hg4
    have ho24 := ho23.new hg4
    have ho4 := ho3.new hg4
    have hg := gb_trans hg hg4
    clear hg4 hv3 ho23 ho3
    by_cases hv : planValid plan = true
    · have Hv := Lib.hid hv
      have hck : countKinds plan = tally (plan.map (fun x => x.kind)) := by unfold countKinds; rw [if_pos hv]
      have hn2 := Hn2.out
      have hn3 := Hn3.out
      clear Hn2 Hn3
      rw [hck] at ho24 ho4 hn2 hn3
      rw [tally_len] at hn2 hn3
      subst hn2 hn3
      have hn10 : n1 ≤ 10 := by have := planValid_len hv; rw [← Hn1.out] at this; exact this
      clear hv hck
      go_wp2_with fail
      go_loopw [6, 7] (fun s i wr => ∃ (k : Nat) (y : Int), k ≤ 6 ∧ i = .int .i64 k ∧ s = .int .i64 y ∧ 0 ≤ y ∧ y ≤ 10 * k ∧ Hid (y = tsum (plan.map (fun x => x.kind)) k) ∧ w4.grownBy wr none) (fun _ i _ => 6 - (intOf i).toNat)
      case atStart => exact ⟨0, 0, Nat.zero_le _, rfl, rfl, by omega, by omega, rfl, gb_refl _ _⟩
      case round =>
        obtain ⟨k, y, hk, rfl, rfl, hy0, hy1, Hy, hgw⟩ := hrel
        by_cases hlt : k < 6
        · obtain ⟨g, o, x, rfl, hx, c0⟩ := (ho24.new hgw).ri.at_ hlt
          have hb := tally_bound hx
          have Hy2 : Hid (y + x = tsum (plan.map (fun x => x.kind)) (k + 1)) := by show _ = _; rw [tsum_succ hx, ← Hy.out]
          have hx0 := hb.1
          have hx1 : x ≤ 10 := by have := hb.2; rw [List.length_map, ← Hn1.out] at this; omega
          clear hx hb
          go_wp2_with fail
          go_roundw
          case rel => exact ⟨k + 1, y + x, by omega, by go_num, rfl, by omega, by omega, Hy2, hgw⟩
          case measure => simp [intOf]; omega
        · obtain rfl : k = 6 := by omega
          have hyn : y = (n1 : Nat) := by rw [Hy.out, tsum_all _ (planValid_kinds Hv.out), List.length_map, ← Hn1.out]
          subst hyn
          obtain ⟨x0, hx0, hx1, hx2⟩ := tally_first Hv.out
          rw [← Hn1.out] at hx1 hx2
          obtain ⟨g, o, x, rfl, hx, c0⟩ := (ho24.new hgw).ri.at_ (k := 0) (by omega)
          obtain rfl : x0 = x := by rw [hx0] at hx; injection hx
          rw [Nat.add_zero] at c0
          clear hx0 hx Hy hy0 hy1
          by_cases h0 : n1 = 0
          · have := hx1 h0
            subst this h0
            clear hx1 hx2
            go_wp2_with fail
            go_ret
            exact ⟨rfl, gb_trans hg hgw⟩
          · have h3 := hx2 (by omega)
            have h4 : 0 < n1 := by omega
            clear hx1 hx2 h0
            go_wp2_with fail
            go_ret
            exact ⟨rfl, gb_trans hg hgw⟩
    · have Hr : countKinds plan = [] := by unfold countKinds; rw [if_neg hv]
      have hn2 := Hn2.out
      have hn3 := Hn3.out
      clear Hn2 Hn3
      rw [Hr] at hn2 hn3 ho24 ho4
      clear Hr
      obtain rfl : n2 = 0 := hn2
      obtain rfl : n3 = 0 := hn3
      go_wp2_with fail
      refine (sameRow_any _ _ _ _ ho24.ri ho4.ri).mono ?_
      rintro e w5 ⟨rfl, hg5⟩
      go_wp2_with fail
      go_ret
      exact ⟨rfl, gb_trans hg hg5⟩
end Go.Proofs.Ytjlnhijabdkagaa
