/- Walks: spec.CountKinds. -/
import Derived.Test.YtjlnhijabdkagaaC1Spec
import Derived.Test.YtjlnhijabdkagaaA5Counts
import Derived.Test.YtjlnhijabdkagaaE4Copy
import Derived.BigRegion
import Derived.RegionTactic
namespace Go.Proofs.Ytjlnhijabdkagaa
open Go.RowKit

def IntsPost' (w : World) (l : List Int) (e : Ending) (w' : World) : Prop := ∃ v', e = .returned v' ∧ OwnI w' w.heap.size v' l ∧ w.grownBy w' none
theorem OwnI.slice {w : World} {base : Nat} {v : Value} {l : List Int} (h : OwnI w base v l) : ∃ A n c, v = .slice A n c ∧ n = l.length ∧ n ≤ c := by
  obtain ⟨A, n, c, h1, h2, h3⟩ := h.ri.form'
  exact ⟨A, n, c, h1, h3, h2⟩
set_option maxHeartbeats 400000 in
theorem specCountKinds_any (v : Value) (plan : List Node) (w : World) (h : RN w v plan) (hl : plan.length ≤ 1000000000) :
    Calls Try.prog 29 #[v] w (IntsPost' w (countKinds plan)) := by
  obtain ⟨A, n, c, rfl, hc, hn, -⟩ := h.form'
  have Hn := Lib.hid hn
  clear hn
  by_cases hv : planValid plan = true
  · have Hv := Lib.hid hv
    clear hv
    have hn10 : n ≤ 10 := by have := planValid_len Hv.out; rw [← Hn.out] at this; exact this
    obtain ⟨i0, hi, hz0, hz1, hz2⟩ := info_parts info3
    go_enter Try.func29, Try.ntmps29
    go_wp2_with fail
    refine (specPlanValid_b _ plan _ h hl Hv.out).mono ?_
    rintro e w1 ⟨rfl, hg1⟩
    have hs1 := hg1.size
    go_wp2_with (at_make; go_must (refine wpList_make_full _ rfl _ _ 27 rfl w1.heap.size 3 i0 _ 1 Try.underlying27 hi hz0 hz1 _ _ _ _ 6 rfl rfl rfl rfl (by rw [hz2]; omega) (by unfold maxLen; omega) (Nat.le_refl _) ?_))
    intro w0 hown0 hg0
    have H0 : Hid (OwnI w0 w1.heap.size (.slice (some ⟨w1.heap.size, 0, none⟩) 6 6) (tally [])) := by
      show OwnI w0 w1.heap.size (.slice (some ⟨w1.heap.size, 0, none⟩) 6 6) (tally [])
      rw [tally_nil]
      have e : (madeCells #[Value.int .i64 0] 6).toList = ([0, 0, 0, 0, 0, 0] : List Int).map (.int .i64) := by simp [madeCells, Nat.mod_one]; rfl
      rw [e] at hown0
      exact hown0
    clear hown0
    have hg10 := gb_trans hg1 hg0
    clear hg0
    go_wp2_with fail
    go_loopw [4] (fun i wr => ∃ k : Nat, k ≤ n ∧ i = .int .i64 k ∧ Hid (OwnI wr w1.heap.size (.slice (some ⟨w1.heap.size, 0, none⟩) 6 6) (tally ((plan.take k).map (fun x => x.kind)))) ∧ w.grownBy wr none) (fun i _ => n - (intOf i).toNat)
    case atStart => exact ⟨0, Nat.zero_le _, rfl, H0, hg10⟩
    case round =>
      clear H0 hg10
      obtain ⟨k, hk, rfl, Ho, hg⟩ := hrel
      have hw := h.new hg
      by_cases hlt : k < n
      · obtain ⟨g, o, nd, f, r, rfl, hx, c0, c1, c2, hf, hr⟩ := hw.at_ hlt
        obtain ⟨hk0, hk5⟩ := planValid_kind Hv.out hx
        obtain ⟨q, hq⟩ := Int.eq_ofNat_of_zero_le hk0
        rw [hq] at c0 hk5
        obtain ⟨x, hx2⟩ : ∃ x, (tally ((plan.take k).map (fun x => x.kind)))[q]? = some x := ⟨_, List.getElem?_eq_getElem (by rw [tally_len]; omega)⟩
        have hb := tally_bound hx2
        have hlen : ((plan.take k).map (fun x => x.kind)).length ≤ 10 := by simp; omega
        obtain ⟨g', cap', cur, he, _, _, hbk, hcs⟩ := Ho.out.form (by rw [tally_len]; omega)
        obtain rfl : w1.heap.size = g' := slice_block he
        have d0 := hcs q x hx2
        have f0 := hbk.frozen q
        have Ho2 : Hid (OwnI (wr.setCell ⟨w1.heap.size, q, none⟩ (.int .i64 (x + 1))) w1.heap.size (.slice (some ⟨w1.heap.size, 0, none⟩) 6 6) (tally ((plan.take (k + 1)).map (fun x => x.kind)))) := by
          show OwnI _ _ _ _
          obtain ⟨hk', hx'⟩ := List.getElem?_eq_some_iff.1 hx
          rw [List.take_succ_eq_append_getElem hk', List.map_append, hx', List.map_singleton, hq, tally_snoc _ (by omega) hx2]
          exact Ho.out.set_ (by rw [tally_len]) q (x + 1)
        have hg2 : w.grownBy (wr.setCell ⟨w1.heap.size, q, none⟩ (.int .i64 (x + 1))) none := gb_set (p := ⟨w1.heap.size, q, none⟩) hg (.inl hs1) _
        have hb1 : x ≤ 10 := by omega
        have hb0 := hb.1
        clear hx hq hx2 hb hlen he hbk hcs Ho hk0 hf hr
        have hq6 : q < 6 := by omega
        go_wp2_with fail
        go_region
        all_goals
          go_wp2_with fail
          go_roundw
          case rel => exact ⟨k + 1, by omega, by go_num, Ho2, gb_drew hg2⟩
          case measure => simp [intOf]; omega
      · obtain rfl : k = n := by omega
        have Ho2 : OwnI wr w1.heap.size (.slice (some ⟨w1.heap.size, 0, none⟩) 6 6) (countKinds plan) := by
          have := Ho.out
          rw [List.take_of_length_le (by rw [← Hn.out]; omega)] at this
          unfold countKinds
          rw [if_pos Hv.out]
          exact this
        clear Ho
        go_wp2_with fail
        go_ret
        exact ⟨_, rfl, Ho2.lower hs1, hg⟩
  · have hv' : planValid plan = false := by simpa using hv
    have Hv := Lib.hid hv'
    have Hr : Hid (countKinds plan = []) := by show countKinds plan = _; unfold countKinds; rw [if_neg hv]
    clear hv hv'
    go_enter Try.func29, Try.ntmps29
    go_wp2_with fail
    refine (specPlanValid_b _ plan _ h hl Hv.out).mono ?_
    rintro e w1 ⟨rfl, hg1⟩
    go_wp2_with fail
    go_ret
    exact ⟨_, rfl, by rw [Hr.out]; exact OwnI.empty w1 hg1.size, gb_alloc hg1 _⟩
end Go.Proofs.Ytjlnhijabdkagaa
