/- Walks: spec's rows. -/
import Derived.Test.YtjlnhijabdkagaaB1Rows
import Derived.Test.YtjlnhijabdkagaaR3Rows
import Derived.Deep.RegionLaw
import Derived.Deep.AppendLies
namespace Go.Proofs.Ytjlnhijabdkagaa
open Go.RowKit

theorem step_push_int_d {ops : Array Oper} {o : Oper} {a : Act} {K : Act → World → Prop} {Q : Exit → Act → World → Prop} {E : Prop} {w : World} {u : Int}
    (s x : Operand) (hgd : o.guard = none) (ho : o.op = .call { callee := .builtin .append, args := #[s, x], argTypes := #[27, 27] })
    {base : Nat} {v : Value} {l : List Int} (hown : OwnI w base v l) (hn : l.length ≤ 1000000000) (hbase : base ≤ w.heap.size)
    (hs : a.eval s = v) (hx : a.eval x = .slice (some ⟨w.heap.size, 0, none⟩) 1 1)
    (h : ∀ v' w', OwnI w' base v' (l ++ [u]) → w.grownBy w' v.ownBlock → K (a.put o.dst v') w') :
    if Region.wanted o (yielded ops a.tmps) = true then Oper.wp Try.prog o a (w.alloc (.cells #[.int .i64 u] 3)).drew K Q else E :=
  step_push_int (w := w.drew) s x hgd ho hown hn hbase hs hx fun v' w' h1 h2 => h v' w' h1 ⟨h2.os, h2.tape, h2.output, h2.size, h2.block⟩
theorem l1Both_b (va vb : Value) (a b : List Int) (w : World) (ha : RI w va a) (hb : RI w vb b) {c : Bool} (hc : (rowValid a && rowValid b && decide (a.length = b.length)) = c) :
    Calls Try.prog 145 #[va, vb] w fun e w' => e = .returned (.bool c) ∧ w = w' := by
  obtain ⟨A, n, d, rfl, _, hn⟩ := ha.form'
  obtain ⟨B, m, d', rfl, _, hm⟩ := hb.form'
  rw [← hn, ← hm] at hc
  have Hc := Lib.hid hc
  clear hn hm hc
  by_cases hva : rowValid a = true
  · have Hva := Lib.hid hva
    by_cases hvb : rowValid b = true
    · have Hvb := Lib.hid hvb
      have Hr : Hid (c = ((n : Int) == (m : Int))) := by
        show _ = _
        rw [← Hc.out, hva, hvb, Bool.true_and, Bool.true_and, Bool.eq_iff_iff]
        simp
        omega
      clear hva hvb
      go_enter Try.func145, Try.ntmps145
      go_wp2_with fail
      refine (specRowValid_b _ a _ ha Hva.out).mono ?_
      rintro e w' ⟨rfl, rfl⟩
      go_wp2_with fail
      refine (specRowValid_b _ b _ hb Hvb.out).mono ?_
      rintro e w' ⟨rfl, rfl⟩
      go_wp2_with fail
      go_ret
      exact ⟨by rw [Hr.out]; rfl, rfl⟩
    · have hvb' : rowValid b = false := by simpa using hvb
      have Hvb := Lib.hid hvb'
      have Hr : Hid (c = false) := by
        show _ = _
        rw [← Hc.out, hvb']
        simp
      clear hva hvb hvb'
      go_enter Try.func145, Try.ntmps145
      go_wp2_with fail
      refine (specRowValid_b _ a _ ha Hva.out).mono ?_
      rintro e w' ⟨rfl, rfl⟩
      go_wp2_with fail
      refine (specRowValid_b _ b _ hb Hvb.out).mono ?_
      rintro e w' ⟨rfl, rfl⟩
      go_wp2_with fail
      go_ret
      exact ⟨by rw [Hr.out]; rfl, rfl⟩
  · have hva' : rowValid a = false := by simpa using hva
    have Hva := Lib.hid hva'
    have Hr : Hid (c = false) := by
      show _ = _
      rw [← Hc.out, hva']
      simp
    clear hva hva'
    go_enter Try.func145, Try.ntmps145
    go_wp2_with fail
    refine (specRowValid_b _ a _ ha Hva.out).mono ?_
    rintro e w' ⟨rfl, rfl⟩
    go_wp2_with fail
    go_ret
    exact ⟨by rw [Hr.out]; rfl, rfl⟩
set_option maxHeartbeats 800000 in
theorem specRowAdd_any (va vb : Value) (a b : List Int) (w : World) (ha : RI w va a) (hb : RI w vb b) : Calls Try.prog 120 #[va, vb] w (RowOut w (rowAdd a b)) := by
  obtain ⟨A, n, c, rfl, hc, hn⟩ := ha.form'
  obtain ⟨B, m, d, rfl, hd, hm⟩ := hb.form'
  have Hn := Lib.hid hn
  have Hm := Lib.hid hm
  clear hn hm
  by_cases hok : (rowValid a && rowValid b && decide (a.length = b.length)) = true
  · have Hr : Hid (rowAdd a b = some (zipRow addI a b)) := by show _ = _; unfold rowAdd rowBoth; rw [if_pos hok]
    have Hok := Lib.hid hok
    simp only [Bool.and_eq_true, decide_eq_true_eq] at hok
    have Hva := Lib.hid hok.1.1
    have Hvb := Lib.hid hok.1.2
    have hn6 : n ≤ 6 := by rw [Hn.out]; exact rowValid_len hok.1.1
    have hmn : m = n := by rw [Hn.out, Hm.out]; exact hok.2.symm
    subst hmn
    clear hok
    go_enter Try.func120, Try.ntmps120
    go_wp2_with fail
    refine (l1Both_b _ _ a b _ (ha.alloc _) (hb.alloc _) Hok.out).mono ?_
    rintro e w' ⟨rfl, rfl⟩
    have ho0 := OwnI.empty w (Nat.le_refl w.heap.size)
    have hg0 := World.grownBy_alloc w (.cells #[] 3) none
    go_wp2_with fail
    go_loopg [6, 7] (m + 1) (fun mm o i wr => ∃ k : Nat, k ≤ m ∧ mm = m + 1 - k ∧ i = .int .i64 k ∧ OwnI wr w.heap.size o (zipRow addI (a.take k) (b.take k)) ∧ w.grownBy wr none)
    case atStart => exact ⟨0, Nat.zero_le _, rfl, rfl, ho0, hg0⟩
    case round =>
      clear ho0 hg0
      obtain ⟨k, hk, rfl, rfl, ho, hg⟩ := hrel
      obtain ⟨Ao, no, co, rfl⟩ := ho.ri.val
      by_cases hlt : k < m
      · obtain ⟨ga, oa, x, rfl, hx, c0⟩ := (ha.new hg).at_ hlt
        obtain ⟨gb, ob, y, rfl, hy, c1⟩ := (hb.new hg).at_ hlt
        obtain ⟨hx0, hx1⟩ := rowValid_mem Hva.out (List.mem_of_getElem? hx)
        obtain ⟨hy0, hy1⟩ := rowValid_mem Hvb.out (List.mem_of_getElem? hy)
        have Hz := Lib.hid (zipRow_snoc addI hx hy)
        have hzl := zipRow_take_len addI (a := a) (b := b) (k := k) (by rw [← Hn.out]; omega) (by rw [← Hm.out]; omega)
        have hl : (zipRow addI (a.take k) (b.take k)).length ≤ 10 := by omega
        obtain ⟨p, hp⟩ : ∃ p, p = x + y := ⟨_, rfl⟩
        have hpb : 0 ≤ p ∧ p ≤ 1016064 := by
          rw [hp]
          omega
        obtain ⟨hp0, hp1⟩ := hpb
        have e1 : IntKind.i64.wrap (x + y) = p := by rw [← hp]; exact IntWalk.i64_in _ (by omega)
        have e2 : p.tmod 1009 = p % 1009 := Int.tmod_eq_emod_of_nonneg hp0
        have e3 : IntKind.i64.wrap (p % 1009) = p % 1009 := IntWalk.i64_in _ (by omega)
        have Hp := Lib.hid hp
        clear hx hy hzl hp
        go_wp2_with fail
        go_region_law (refine step_push_int_d (u := p % 1009) (.tmp 20) (.tmp 31) rfl rfl (by exact ho) (by omega) (by exact hg.size) rfl rfl ?_; intro v' w4 hown4 hg4)
        all_goals
          have hz2 : zipRow addI (a.take (k + 1)) (b.take (k + 1)) = zipRow addI (a.take k) (b.take k) ++ [p % 1009] := by
            rw [Hz.out, Hp.out]
            rfl
          rw [← hz2] at hown4
          have hg5 := ho.gb hg (by assumption) (Nat.le_refl _)
          clear e1 e2 e3 hz2
          go_wp2_with fail
          go_roundg (m + 1 - (k + 1))
          case measure => omega
          case rel => exact ⟨k + 1, by omega, rfl, by go_num, hown4, hg5⟩
      · obtain rfl : k = m := by omega
        have hO2 : OwnI wr w.heap.size (.slice Ao no co) (zipRow addI a b) := by
          have := ho
          rw [List.take_of_length_le (by rw [← Hn.out]; exact Nat.le_refl _), List.take_of_length_le (by rw [← Hm.out]; exact Nat.le_refl _)] at this
          exact this
        clear ho
        go_wp2_with fail
        go_ret2
        exact ⟨_, by rw [Hr.out]; rfl, by rw [Hr.out]; exact hO2, hg⟩
  · have hok' : (rowValid a && rowValid b && decide (a.length = b.length)) = false := by simpa using hok
    have Hr : Hid (rowAdd a b = none) := by show _ = _; unfold rowAdd rowBoth; rw [if_neg hok]
    have Hok := Lib.hid hok'
    clear hok hok'
    go_enter Try.func120, Try.ntmps120
    go_wp2_with fail
    refine (l1Both_b _ _ a b _ (ha.alloc _) (hb.alloc _) Hok.out).mono ?_
    rintro e w' ⟨rfl, rfl⟩
    go_wp2_with fail
    go_ret2
    exact ⟨_, by rw [Hr.out]; rfl, by rw [Hr.out]; exact OwnI.empty w (Nat.le_refl _), World.grownBy_alloc w _ none⟩
set_option maxHeartbeats 800000 in
theorem specRowTimes_any (va vb : Value) (a b : List Int) (w : World) (ha : RI w va a) (hb : RI w vb b) : Calls Try.prog 121 #[va, vb] w (RowOut w (rowTimes a b)) := by
  obtain ⟨A, n, c, rfl, hc, hn⟩ := ha.form'
  obtain ⟨B, m, d, rfl, hd, hm⟩ := hb.form'
  have Hn := Lib.hid hn
  have Hm := Lib.hid hm
  clear hn hm
  by_cases hok : (rowValid a && rowValid b && decide (a.length = b.length)) = true
  · have Hr : Hid (rowTimes a b = some (zipRow mulI a b)) := by show _ = _; unfold rowTimes rowBoth; rw [if_pos hok]
    have Hok := Lib.hid hok
    simp only [Bool.and_eq_true, decide_eq_true_eq] at hok
    have Hva := Lib.hid hok.1.1
    have Hvb := Lib.hid hok.1.2
    have hn6 : n ≤ 6 := by rw [Hn.out]; exact rowValid_len hok.1.1
    have hmn : m = n := by rw [Hn.out, Hm.out]; exact hok.2.symm
    subst hmn
    clear hok
    go_enter Try.func121, Try.ntmps121
    go_wp2_with fail
    refine (l1Both_b _ _ a b _ (ha.alloc _) (hb.alloc _) Hok.out).mono ?_
    rintro e w' ⟨rfl, rfl⟩
    have ho0 := OwnI.empty w (Nat.le_refl w.heap.size)
    have hg0 := World.grownBy_alloc w (.cells #[] 3) none
    go_wp2_with fail
    go_loopg [6, 7] (m + 1) (fun mm o i wr => ∃ k : Nat, k ≤ m ∧ mm = m + 1 - k ∧ i = .int .i64 k ∧ OwnI wr w.heap.size o (zipRow mulI (a.take k) (b.take k)) ∧ w.grownBy wr none)
    case atStart => exact ⟨0, Nat.zero_le _, rfl, rfl, ho0, hg0⟩
    case round =>
      clear ho0 hg0
      obtain ⟨k, hk, rfl, rfl, ho, hg⟩ := hrel
      obtain ⟨Ao, no, co, rfl⟩ := ho.ri.val
      by_cases hlt : k < m
      · obtain ⟨ga, oa, x, rfl, hx, c0⟩ := (ha.new hg).at_ hlt
        obtain ⟨gb, ob, y, rfl, hy, c1⟩ := (hb.new hg).at_ hlt
        obtain ⟨hx0, hx1⟩ := rowValid_mem Hva.out (List.mem_of_getElem? hx)
        obtain ⟨hy0, hy1⟩ := rowValid_mem Hvb.out (List.mem_of_getElem? hy)
        have Hz := Lib.hid (zipRow_snoc mulI hx hy)
        have hzl := zipRow_take_len mulI (a := a) (b := b) (k := k) (by rw [← Hn.out]; omega) (by rw [← Hm.out]; omega)
        have hl : (zipRow mulI (a.take k) (b.take k)).length ≤ 10 := by omega
        obtain ⟨p, hp⟩ : ∃ p, p = x * y := ⟨_, rfl⟩
        have hpb : 0 ≤ p ∧ p ≤ 1016064 := by
          rw [hp]
          refine ⟨Int.mul_nonneg hx0 hy0, ?_⟩
          have := Int.mul_le_mul hx1 hy1 hy0 (by omega)
          omega
        obtain ⟨hp0, hp1⟩ := hpb
        have e1 : IntKind.i64.wrap (x * y) = p := by rw [← hp]; exact IntWalk.i64_in _ (by omega)
        have e2 : p.tmod 1009 = p % 1009 := Int.tmod_eq_emod_of_nonneg hp0
        have e3 : IntKind.i64.wrap (p % 1009) = p % 1009 := IntWalk.i64_in _ (by omega)
        have Hp := Lib.hid hp
        clear hx hy hzl hp
        go_wp2_with fail
        go_region_law (refine step_push_int_d (u := p % 1009) (.tmp 20) (.tmp 31) rfl rfl (by exact ho) (by omega) (by exact hg.size) rfl rfl ?_; intro v' w4 hown4 hg4)
        all_goals
          have hz2 : zipRow mulI (a.take (k + 1)) (b.take (k + 1)) = zipRow mulI (a.take k) (b.take k) ++ [p % 1009] := by
            rw [Hz.out, Hp.out]
            rfl
          rw [← hz2] at hown4
          have hg5 := ho.gb hg (by assumption) (Nat.le_refl _)
          clear e1 e2 e3 hz2
          go_wp2_with fail
          go_roundg (m + 1 - (k + 1))
          case measure => omega
          case rel => exact ⟨k + 1, by omega, rfl, by go_num, hown4, hg5⟩
      · obtain rfl : k = m := by omega
        have hO2 : OwnI wr w.heap.size (.slice Ao no co) (zipRow mulI a b) := by
          have := ho
          rw [List.take_of_length_le (by rw [← Hn.out]; exact Nat.le_refl _), List.take_of_length_le (by rw [← Hm.out]; exact Nat.le_refl _)] at this
          exact this
        clear ho
        go_wp2_with fail
        go_ret2
        exact ⟨_, by rw [Hr.out]; rfl, by rw [Hr.out]; exact hO2, hg⟩
  · have hok' : (rowValid a && rowValid b && decide (a.length = b.length)) = false := by simpa using hok
    have Hr : Hid (rowTimes a b = none) := by show _ = _; unfold rowTimes rowBoth; rw [if_neg hok]
    have Hok := Lib.hid hok'
    clear hok hok'
    go_enter Try.func121, Try.ntmps121
    go_wp2_with fail
    refine (l1Both_b _ _ a b _ (ha.alloc _) (hb.alloc _) Hok.out).mono ?_
    rintro e w' ⟨rfl, rfl⟩
    go_wp2_with fail
    go_ret2
    exact ⟨_, by rw [Hr.out]; rfl, by rw [Hr.out]; exact OwnI.empty w (Nat.le_refl _), World.grownBy_alloc w _ none⟩
end Go.Proofs.Ytjlnhijabdkagaa
