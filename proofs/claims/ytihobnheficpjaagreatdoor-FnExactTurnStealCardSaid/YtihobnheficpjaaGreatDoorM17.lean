/- Walks: spec's rows. · Walks: spec's rows: RowSums, l1Put, RowSort, RowTurn. · Walks: spec.KindRun. · Walks: impl.KindRun. -/
import Derived.Test.YtihobnheficpjaaGreatDoorM08
import Derived.Test.YtihobnheficpjaaGreatDoorM15
import Derived.Deep.RegionLaw
import Derived.Deep.AppendLies
import Derived.Test.YtihobnheficpjaaGreatDoorM13
import Derived.Test.YtihobnheficpjaaGreatDoorM11
import Derived.Test.YtihobnheficpjaaGreatDoorM06
import Derived.Laws.EntriesVeiled
namespace Go.Proofs.YtihobnheficpjaaGreatDoor
open Go.RowKit

theorem step_push_int_d {ops : Array Oper} {o : Oper} {a : Act} {K : Act → World → Prop} {Q : Exit → Act → World → Prop} {E : Prop} {w : World} {u : Int}
    (s x : Operand) (hgd : o.guard = none) (ho : o.op = .call { callee := .builtin .append, args := #[s, x], argTypes := #[25, 25] })
    {base : Nat} {v : Value} {l : List Int} (hown : OwnI w base v l) (hn : l.length ≤ 1000000000) (hbase : base ≤ w.heap.size)
    (hs : a.eval s = v) (hx : a.eval x = .slice (some ⟨w.heap.size, 0, none⟩) 1 1)
    (h : ∀ v' w', OwnI w' base v' (l ++ [u]) → w.grownBy w' v.ownBlock → K (a.put o.dst v') w') :
    if Region.wanted o (yielded ops a.tmps) = true then Oper.wp Tryz.prog o a (w.alloc (.cells #[.int .i64 u] 3)).drew K Q else E :=
  step_push_int (w := w.drew) s x hgd ho hown hn hbase hs hx fun v' w' h1 h2 => h v' w' h1 ⟨h2.os, h2.tape, h2.output, h2.size, h2.block⟩
theorem l1Both_b (va vb : Value) (a b : List Int) (w : World) (ha : RI w va a) (hb : RI w vb b) {c : Bool} (hc : (rowValid a && rowValid b && decide (a.length = b.length)) = c) :
    Calls Tryz.prog 178 #[va, vb] w fun e w' => e = .returned (.bool c) ∧ w = w' := by
  obtain ⟨A, n, d, rfl, _, hn⟩ := ha.form'
  obtain ⟨B, m, d', rfl, _, hm⟩ := hb.form'
  rw [← hn, ← hm] at hc
  have Hc := Lib.hid hc
  clear hn hm hc
  by_cases hva : rowValid a = true
  · have Hva := Lib.hid hva
    by_cases hvb : rowValid b = true
    · have Hvb := Lib.hid hvb
      have Hr : Hid (c = ((n : Int) == (m : Int))) := by
        show _ = _
        rw [← Hc.out, hva, hvb, Bool.true_and, Bool.true_and, Bool.eq_iff_iff]
        simp
        omega
      clear hva hvb
      go_enter Tryz.func178, Tryz.ntmps178
      go_wp2_with fail
      refine (specRowValid_b _ a _ ha Hva.out).mono ?_
      rintro e w' ⟨rfl, rfl⟩
      go_wp2_with fail
      refine (specRowValid_b _ b _ hb Hvb.out).mono ?_
      rintro e w' ⟨rfl, rfl⟩
      go_wp2_with fail
      go_ret
      exact ⟨by rw [Hr.out]; rfl, rfl⟩
    · have hvb' : rowValid b = false := by simpa using hvb
      have Hvb := Lib.hid hvb'
      have Hr : Hid (c = false) := by
        show _ = _
        rw [← Hc.out, hvb']
        simp
      clear hva hvb hvb'
      go_enter Tryz.func178, Tryz.ntmps178
      go_wp2_with fail
      refine (specRowValid_b _ a _ ha Hva.out).mono ?_
      rintro e w' ⟨rfl, rfl⟩
      go_wp2_with fail
      refine (specRowValid_b _ b _ hb Hvb.out).mono ?_
      rintro e w' ⟨rfl, rfl⟩
      go_wp2_with fail
      go_ret
      exact ⟨by rw [Hr.out]; rfl, rfl⟩
  · have hva' : rowValid a = false := by simpa using hva
    have Hva := Lib.hid hva'
    have Hr : Hid (c = false) := by
      show _ = _
      rw [← Hc.out, hva']
      simp
    clear hva hva'
    go_enter Tryz.func178, Tryz.ntmps178
    go_wp2_with fail
    refine (specRowValid_b _ a _ ha Hva.out).mono ?_
    rintro e w' ⟨rfl, rfl⟩
    go_wp2_with fail
    go_ret
    exact ⟨by rw [Hr.out]; rfl, rfl⟩
set_option maxHeartbeats 800000 in
theorem specRowAdd_any (va vb : Value) (a b : List Int) (w : World) (ha : RI w va a) (hb : RI w vb b) : Calls Tryz.prog 149 #[va, vb] w (RowOut w (rowAdd a b)) := by
  obtain ⟨A, n, c, rfl, hc, hn⟩ := ha.form'
  obtain ⟨B, m, d, rfl, hd, hm⟩ := hb.form'
  have Hn := Lib.hid hn
  have Hm := Lib.hid hm
  clear hn hm
  by_cases hok : (rowValid a && rowValid b && decide (a.length = b.length)) = true
  · have Hr : Hid (rowAdd a b = some (zipRow addI a b)) := by show _ = _; unfold rowAdd rowBoth; rw [if_pos hok]
    have Hok := Lib.hid hok
    simp only [Bool.and_eq_true, decide_eq_true_eq] at hok
    have Hva := Lib.hid hok.1.1
    have Hvb := Lib.hid hok.1.2
    have hn6 : n ≤ 6 := by rw [Hn.out]; exact rowValid_len hok.1.1
    have hmn : m = n := by rw [Hn.out, Hm.out]; exact hok.2.symm
    subst hmn
    clear hok
    go_enter Tryz.func149, Tryz.ntmps149
    go_wp2_with fail
    refine (l1Both_b _ _ a b _ (ha.alloc _) (hb.alloc _) Hok.out).mono ?_
    rintro e w' ⟨rfl, rfl⟩
    have ho0 := OwnI.empty w (Nat.le_refl w.heap.size)
    have hg0 := World.grownBy_alloc w (.cells #[] 3) none
    go_wp2_with fail
    go_loopg [6, 7] (m + 1) (fun mm o i wr => ∃ k : Nat, k ≤ m ∧ mm = m + 1 - k ∧ i = .int .i64 k ∧ OwnI wr w.heap.size o (zipRow addI (a.take k) (b.take k)) ∧ w.grownBy wr none)
    case atStart => exact ⟨0, Nat.zero_le _, rfl, rfl, ho0, hg0⟩
    case round =>
      clear ho0 hg0
      obtain ⟨k, hk, rfl, rfl, ho, hg⟩ := hrel
      obtain ⟨Ao, no, co, rfl⟩ := ho.ri.val
      by_cases hlt : k < m
      · obtain ⟨ga, oa, x, rfl, hx, c0⟩ := (ha.new hg).at_ hlt
        obtain ⟨gb, ob, y, rfl, hy, c1⟩ := (hb.new hg).at_ hlt
        obtain ⟨hx0, hx1⟩ := rowValid_mem Hva.out (List.mem_of_getElem? hx)
        obtain ⟨hy0, hy1⟩ := rowValid_mem Hvb.out (List.mem_of_getElem? hy)
        have Hz := Lib.hid (zipRow_snoc addI hx hy)
        have hzl := zipRow_take_len addI (a := a) (b := b) (k := k) (by rw [← Hn.out]; omega) (by rw [← Hm.out]; omega)
        have hl : (zipRow addI (a.take k) (b.take k)).length ≤ 10 := by omega
        obtain ⟨p, hp⟩ : ∃ p, p = x + y := ⟨_, rfl⟩
        have hpb : 0 ≤ p ∧ p ≤ 1016064 := by
          rw [hp]
          omega
        obtain ⟨hp0, hp1⟩ := hpb
        have e1 : IntKind.i64.wrap (x + y) = p := by rw [← hp]; exact IntWalk.i64_in _ (by omega)
        have e2 : p.tmod 1009 = p % 1009 := Int.tmod_eq_emod_of_nonneg hp0
        have e3 : IntKind.i64.wrap (p % 1009) = p % 1009 := IntWalk.i64_in _ (by omega)
        have Hp := Lib.hid hp
        clear hx hy hzl hp
        go_wp2_with fail
        go_region_law (refine step_push_int_d (u := p % 1009) (.tmp 20) (.tmp 31) rfl rfl (by exact ho) (by omega) (by exact hg.size) rfl rfl ?_; intro v' w4 hown4 hg4)
        all_goals
          have hz2 : zipRow addI (a.take (k + 1)) (b.take (k + 1)) = zipRow addI (a.take k) (b.take k) ++ [p % 1009] := by
            rw [Hz.out, Hp.out]
            rfl
          rw [← hz2] at hown4
          have hg5 := ho.gb hg (by assumption) (Nat.le_refl _)
          clear e1 e2 e3 hz2
          go_wp2_with fail
          go_roundg (m + 1 - (k + 1))
          case measure => omega
          case rel => exact ⟨k + 1, by omega, rfl, by go_num, hown4, hg5⟩
      · obtain rfl : k = m := by omega
        have hO2 : OwnI wr w.heap.size (.slice Ao no co) (zipRow addI a b) := by
          have := ho
          rw [List.take_of_length_le (by rw [← Hn.out]; exact Nat.le_refl _), List.take_of_length_le (by rw [← Hm.out]; exact Nat.le_refl _)] at this
          exact this
        clear ho
        go_wp2_with fail
        go_ret2
        exact ⟨_, by rw [Hr.out]; rfl, by rw [Hr.out]; exact hO2, hg⟩
  · have hok' : (rowValid a && rowValid b && decide (a.length = b.length)) = false := by simpa using hok
    have Hr : Hid (rowAdd a b = none) := by show _ = _; unfold rowAdd rowBoth; rw [if_neg hok]
    have Hok := Lib.hid hok'
    clear hok hok'
    go_enter Tryz.func149, Tryz.ntmps149
    go_wp2_with fail
    refine (l1Both_b _ _ a b _ (ha.alloc _) (hb.alloc _) Hok.out).mono ?_
    rintro e w' ⟨rfl, rfl⟩
    go_wp2_with fail
    go_ret2
    exact ⟨_, by rw [Hr.out]; rfl, by rw [Hr.out]; exact OwnI.empty w (Nat.le_refl _), World.grownBy_alloc w _ none⟩
set_option maxHeartbeats 800000 in
theorem specRowTimes_any (va vb : Value) (a b : List Int) (w : World) (ha : RI w va a) (hb : RI w vb b) : Calls Tryz.prog 150 #[va, vb] w (RowOut w (rowTimes a b)) := by
  obtain ⟨A, n, c, rfl, hc, hn⟩ := ha.form'
  obtain ⟨B, m, d, rfl, hd, hm⟩ := hb.form'
  have Hn := Lib.hid hn
  have Hm := Lib.hid hm
  clear hn hm
  by_cases hok : (rowValid a && rowValid b && decide (a.length = b.length)) = true
  · have Hr : Hid (rowTimes a b = some (zipRow mulI a b)) := by show _ = _; unfold rowTimes rowBoth; rw [if_pos hok]
    have Hok := Lib.hid hok
    simp only [Bool.and_eq_true, decide_eq_true_eq] at hok
    have Hva := Lib.hid hok.1.1
    have Hvb := Lib.hid hok.1.2
    have hn6 : n ≤ 6 := by rw [Hn.out]; exact rowValid_len hok.1.1
    have hmn : m = n := by rw [Hn.out, Hm.out]; exact hok.2.symm
    subst hmn
    clear hok
    go_enter Tryz.func150, Tryz.ntmps150
    go_wp2_with fail
    refine (l1Both_b _ _ a b _ (ha.alloc _) (hb.alloc _) Hok.out).mono ?_
    rintro e w' ⟨rfl, rfl⟩
    have ho0 := OwnI.empty w (Nat.le_refl w.heap.size)
    have hg0 := World.grownBy_alloc w (.cells #[] 3) none
    go_wp2_with fail
    go_loopg [6, 7] (m + 1) (fun mm o i wr => ∃ k : Nat, k ≤ m ∧ mm = m + 1 - k ∧ i = .int .i64 k ∧ OwnI wr w.heap.size o (zipRow mulI (a.take k) (b.take k)) ∧ w.grownBy wr none)
    case atStart => exact ⟨0, Nat.zero_le _, rfl, rfl, ho0, hg0⟩
    case round =>
      clear ho0 hg0
      obtain ⟨k, hk, rfl, rfl, ho, hg⟩ := hrel
      obtain ⟨Ao, no, co, rfl⟩ := ho.ri.val
      by_cases hlt : k < m
      · obtain ⟨ga, oa, x, rfl, hx, c0⟩ := (ha.new hg).at_ hlt
        obtain ⟨gb, ob, y, rfl, hy, c1⟩ := (hb.new hg).at_ hlt
        obtain ⟨hx0, hx1⟩ := rowValid_mem Hva.out (List.mem_of_getElem? hx)
        obtain ⟨hy0, hy1⟩ := rowValid_mem Hvb.out (List.mem_of_getElem? hy)
        have Hz := Lib.hid (zipRow_snoc mulI hx hy)
        have hzl := zipRow_take_len mulI (a := a) (b := b) (k := k) (by rw [← Hn.out]; omega) (by rw [← Hm.out]; omega)
        have hl : (zipRow mulI (a.take k) (b.take k)).length ≤ 10 := by omega
        obtain ⟨p, hp⟩ : ∃ p, p = x * y := ⟨_, rfl⟩
        have hpb : 0 ≤ p ∧ p ≤ 1016064 := by
          rw [hp]
          refine ⟨Int.mul_nonneg hx0 hy0, ?_⟩
          have := Int.mul_le_mul hx1 hy1 hy0 (by omega)
          omega
        obtain ⟨hp0, hp1⟩ := hpb
        have e1 : IntKind.i64.wrap (x * y) = p := by rw [← hp]; exact IntWalk.i64_in _ (by omega)
        have e2 : p.tmod 1009 = p % 1009 := Int.tmod_eq_emod_of_nonneg hp0
        have e3 : IntKind.i64.wrap (p % 1009) = p % 1009 := IntWalk.i64_in _ (by omega)
        have Hp := Lib.hid hp
        clear hx hy hzl hp
        go_wp2_with fail
        go_region_law (refine step_push_int_d (u := p % 1009) (.tmp 20) (.tmp 31) rfl rfl (by exact ho) (by omega) (by exact hg.size) rfl rfl ?_; intro v' w4 hown4 hg4)
        all_goals
          have hz2 : zipRow mulI (a.take (k + 1)) (b.take (k + 1)) = zipRow mulI (a.take k) (b.take k) ++ [p % 1009] := by
            rw [Hz.out, Hp.out]
            rfl
          rw [← hz2] at hown4
          have hg5 := ho.gb hg (by assumption) (Nat.le_refl _)
          clear e1 e2 e3 hz2
          go_wp2_with fail
          go_roundg (m + 1 - (k + 1))
          case measure => omega
          case rel => exact ⟨k + 1, by omega, rfl, by go_num, hown4, hg5⟩
      · obtain rfl : k = m := by omega
        have hO2 : OwnI wr w.heap.size (.slice Ao no co) (zipRow mulI a b) := by
          have := ho
          rw [List.take_of_length_le (by rw [← Hn.out]; exact Nat.le_refl _), List.take_of_length_le (by rw [← Hm.out]; exact Nat.le_refl _)] at this
          exact this
        clear ho
        go_wp2_with fail
        go_ret2
        exact ⟨_, by rw [Hr.out]; rfl, by rw [Hr.out]; exact hO2, hg⟩
  · have hok' : (rowValid a && rowValid b && decide (a.length = b.length)) = false := by simpa using hok
    have Hr : Hid (rowTimes a b = none) := by show _ = _; unfold rowTimes rowBoth; rw [if_neg hok]
    have Hok := Lib.hid hok'
    clear hok hok'
    go_enter Tryz.func150, Tryz.ntmps150
    go_wp2_with fail
    refine (l1Both_b _ _ a b _ (ha.alloc _) (hb.alloc _) Hok.out).mono ?_
    rintro e w' ⟨rfl, rfl⟩
    go_wp2_with fail
    go_ret2
    exact ⟨_, by rw [Hr.out]; rfl, by rw [Hr.out]; exact OwnI.empty w (Nat.le_refl _), World.grownBy_alloc w _ none⟩
end Go.Proofs.YtihobnheficpjaaGreatDoor
namespace Go.Proofs.YtihobnheficpjaaGreatDoor
open Go.RowKit

theorem specRowSums_any (v : Value) (l : List Int) (w : World) (h : RI w v l) : Calls Tryz.prog 151 #[v] w (RowOut w (rowSums l)) := by
  obtain ⟨A, n, c, rfl, hc, hn⟩ := h.form'
  have Hn := Lib.hid hn
  clear hn
  by_cases hok : rowValid l = true
  · have Hr : Hid (rowSums l = some (sumsFrom 0 l)) := by show _ = _; unfold rowSums; rw [if_pos hok]
    have Hok := Lib.hid hok
    have hn6 : n ≤ 6 := by rw [Hn.out]; exact rowValid_len hok
    clear hok
    go_enter Tryz.func151, Tryz.ntmps151
    go_wp2_with fail
    refine (specRowValid_b _ l _ (h.alloc _) Hok.out).mono ?_
    rintro e w' ⟨rfl, rfl⟩
    have ho0 := OwnI.empty w (Nat.le_refl w.heap.size)
    have hg0 := World.grownBy_alloc w (.cells #[] 3) none
    go_wp2_with fail
    go_loopg [4, 5, 6] (n + 1) (fun mm o s i wr => ∃ (k : Nat) (z : Int), k ≤ n ∧ mm = n + 1 - k ∧ i = .int .i64 k ∧ s = .int .i64 z ∧ 0 ≤ z ∧ z ≤ 1008 ∧ Hid (z = (sumsFrom 0 (l.take k)).getLast?.getD 0) ∧ OwnI wr w.heap.size o (sumsFrom 0 (l.take k)) ∧ w.grownBy wr none)
    case atStart => exact ⟨0, 0, Nat.zero_le _, rfl, rfl, rfl, by omega, by omega, rfl, ho0, hg0⟩
    case round =>
      clear ho0 hg0
      obtain ⟨k, z, hk, rfl, rfl, rfl, hz0, hz1, Hz, ho, hg⟩ := hrel
      obtain ⟨Ao, no, co, rfl⟩ := ho.ri.val
      by_cases hlt : k < n
      · obtain ⟨ga, oa, x, rfl, hx, c0⟩ := (h.new hg).at_ hlt
        obtain ⟨hx0, hx1⟩ := rowValid_mem Hok.out (List.mem_of_getElem? hx)
        obtain ⟨hk', hx'⟩ := List.getElem?_eq_some_iff.1 hx
        have hsn : Hid (sumsFrom 0 (l.take (k + 1)) = sumsFrom 0 (l.take k) ++ [(z + x) % 1009]) := by
          show _ = _
          rw [List.take_succ_eq_append_getElem hk', hx', sumsFrom_append, ← Hz.out]
        have hl : (sumsFrom 0 (l.take k)).length ≤ 10 := by rw [sumsFrom_len, List.length_take]; omega
        have Hz2 : Hid ((z + x) % 1009 = (sumsFrom 0 (l.take (k + 1))).getLast?.getD 0) := by
          show _ = _
          rw [hsn.out, List.getLast?_append]
          simp
        clear hx hk' hx' Hz
        go_wp2_with (at_builtin; go_must (refine wp_push_int (.tmp 25) (.tmp 27) rfl rfl ho (by omega) hg.size rfl rfl ?_))
        intro v' w4 hown4 hg4
        have hg5 := ho.gb hg hg4 (Nat.le_refl _)
        rw [← hsn.out] at hown4
        go_wp2_with fail
        go_roundg (n + 1 - (k + 1))
        case measure => omega
        case rel => exact ⟨k + 1, _, by omega, rfl, by go_num, rfl, by omega, by omega, Hz2, hown4, hg5⟩
      · obtain rfl : k = n := by omega
        have hO2 : OwnI wr w.heap.size (.slice Ao no co) (sumsFrom 0 l) := by
          have := ho
          rw [List.take_of_length_le (by rw [← Hn.out]; exact Nat.le_refl _)] at this
          exact this
        clear ho Hz
        go_wp2_with fail
        go_ret2
        exact ⟨_, by rw [Hr.out]; rfl, by rw [Hr.out]; exact hO2, hg⟩
  · have hok' : rowValid l = false := by simpa using hok
    have Hr : Hid (rowSums l = none) := by show _ = _; unfold rowSums; rw [if_neg hok]
    have Hok := Lib.hid hok'
    clear hok hok'
    go_enter Tryz.func151, Tryz.ntmps151
    go_wp2_with fail
    refine (specRowValid_b _ l _ (h.alloc _) Hok.out).mono ?_
    rintro e w' ⟨rfl, rfl⟩
    go_wp2_with fail
    go_ret2
    exact ⟨_, by rw [Hr.out]; rfl, by rw [Hr.out]; exact OwnI.empty w (Nat.le_refl _), World.grownBy_alloc w _ none⟩
theorem putRow_len (l : List Int) (n : Int) : (putRow l n).length = l.length + 1 := by
  induction l with
  | nil => rfl
  | cons x xs ih => unfold putRow; split <;> simp [ih]
theorem foldl_put_len (l acc : List Int) : (l.foldl putRow acc).length = l.length + acc.length := by
  induction l generalizing acc with
  | nil => simp
  | cons x xs ih => rw [List.foldl_cons, ih, putRow_len, List.length_cons]; omega
theorem drop_cons {l : List Int} {k : Nat} {x : Int} (h : l[k]? = some x) : l.drop k = x :: l.drop (k + 1) := by
  obtain ⟨hk, rfl⟩ := List.getElem?_eq_some_iff.1 h
  exact List.drop_eq_getElem_cons hk
set_option maxHeartbeats 800000 in
theorem l1Put_any (v : Value) (l : List Int) (x : Int) (w : World) (h : RI w v l) (hl : l.length ≤ 12) : Calls Tryz.prog 179 #[v, .int .i64 x] w (IntsOut w (putRow l x)) := by
  obtain ⟨A, n, c, rfl, hc, hn⟩ := h.form'
  have hn12 : n ≤ 12 := by omega
  have Hn := Lib.hid hn
  clear hn hl
  have ho0 := OwnI.empty w (Nat.le_refl w.heap.size)
  have hg0 := World.grownBy_alloc w (.cells #[] 3) none
  go_enter Tryz.func179, Tryz.ntmps179
  go_wp2_with fail
  go_loopg [5, 6, 7] (n + 1) (fun mm o d i wr => ∃ (k : Nat) (b : Bool) (q : List Int), k ≤ n ∧ mm = n + 1 - k ∧ i = .int .i64 k ∧ d = .bool b ∧ q.length ≤ 2 * k ∧ Hid (q ++ (if b then l.drop k else putRow (l.drop k) x) = putRow l x) ∧ OwnI wr w.heap.size o q ∧ w.grownBy wr none)
  case atStart => exact ⟨0, false, [], Nat.zero_le _, rfl, rfl, rfl, by simp, rfl, ho0, hg0⟩
  case round =>
    clear ho0 hg0
    obtain ⟨k, b, q, hk, rfl, rfl, rfl, hq, Hq, ho, hg⟩ := hrel
    obtain ⟨Ao, no, co, rfl⟩ := ho.ri.val
    by_cases hlt : k < n
    · obtain ⟨ga, oa, y, rfl, hy, c0⟩ := (h.new hg).at_ hlt
      have hd := drop_cons hy
      cases b
      · by_cases hxy : x < y
        · have Hq2 : Hid ((q ++ [x, y]) ++ (if true then l.drop (k + 1) else putRow (l.drop (k + 1)) x) = putRow l x) := by
            show _ = _
            rw [← Hq.out, hd]
            simp [putRow, hxy]
          clear Hq hd
          go_wp2_with (at_builtin; go_must (refine wp_push_int (.tmp 25) (.tmp 27) rfl rfl ho (by omega) hg.size rfl rfl ?_))
          intro v' w4 hown4 hg4
          have hg5 := ho.gb hg hg4 (Nat.le_refl _)
          obtain ⟨A', n', c', rfl⟩ := hown4.ri.val
          have hc1 : w4.cell? ⟨ga, oa + k, none⟩ = some (.int .i64 y) := by
            obtain ⟨ga', oa', y', e', hy', c0'⟩ := (h.new hg5).at_ hlt
            injection e' with e'
            injection e' with e1 e2 e3
            subst e1 e2
            rw [hy] at hy'
            injection hy' with hy'
            rw [hy']
            exact c0'
          clear hy
          have hql : (q ++ [x]).length ≤ 1000000000 := by rw [List.length_append]; simp; omega
          go_wp2_with (at_builtin; go_must (refine wp_push_int (.tmp 29) (.tmp 34) rfl rfl hown4 hql hg5.size rfl rfl ?_))
          intro v5 w5 hown5 hg6
          have hown6 : OwnI w5 w.heap.size v5 (q ++ [x, y]) := hown5
          clear hown5
          have hg7 := hown4.gb hg5 hg6 (Nat.le_refl _)
          go_wp2_with fail
          go_roundg (n + 1 - (k + 1))
          case measure => omega
          case rel => exact ⟨k + 1, true, _, by omega, rfl, by go_num, rfl, by rw [List.length_append]; simp; omega, Hq2, hown6, hg7⟩
        · have Hq2 : Hid ((q ++ [y]) ++ (if false then l.drop (k + 1) else putRow (l.drop (k + 1)) x) = putRow l x) := by
            show _ = _
            rw [← Hq.out, hd]
            simp [putRow, hxy]
          clear Hq hy hd
          go_wp2_with (at_builtin; go_must (refine wp_push_int (.tmp 29) (.tmp 34) rfl rfl ho (by omega) hg.size rfl rfl ?_))
          intro v' w4 hown4 hg4
          have hg5 := ho.gb hg hg4 (Nat.le_refl _)
          go_wp2_with fail
          go_roundg (n + 1 - (k + 1))
          case measure => omega
          case rel => exact ⟨k + 1, false, _, by omega, rfl, by go_num, rfl, by rw [List.length_append]; simp; omega, Hq2, hown4, hg5⟩
      · have Hq2 : Hid ((q ++ [y]) ++ (if true then l.drop (k + 1) else putRow (l.drop (k + 1)) x) = putRow l x) := by
          show _ = _
          rw [← Hq.out, hd]
          simp
        clear Hq hy hd
        go_wp2_with (at_builtin; go_must (refine wp_push_int (.tmp 29) (.tmp 34) rfl rfl ho (by omega) hg.size rfl rfl ?_))
        intro v' w4 hown4 hg4
        have hg5 := ho.gb hg hg4 (Nat.le_refl _)
        go_wp2_with fail
        go_roundg (n + 1 - (k + 1))
        case measure => omega
        case rel => exact ⟨k + 1, true, _, by omega, rfl, by go_num, rfl, by rw [List.length_append]; simp; omega, Hq2, hown4, hg5⟩
    · obtain rfl : k = n := by omega
      have hdn : l.drop k = [] := List.drop_eq_nil_of_le (by rw [← Hn.out]; exact Nat.le_refl _)
      cases b
      · have Hq2 : Hid (q ++ [x] = putRow l x) := by
          show _ = _
          rw [← Hq.out, hdn]
          rfl
        clear Hq hdn
        go_wp2_with (at_builtin; go_must (refine wp_push_int (.tmp 38) (.tmp 40) rfl rfl ho (by omega) hg.size rfl rfl ?_))
        intro v' w4 hown4 hg4
        have hg5 := ho.gb hg hg4 (Nat.le_refl _)
        rw [Hq2.out] at hown4
        obtain ⟨A', n', c', rfl⟩ := hown4.ri.val
        go_wp2_with fail
        go_ret
        exact ⟨_, rfl, hown4, hg5⟩
      · have Hq2 : Hid (q = putRow l x) := by
          show _ = _
          rw [← Hq.out, hdn]
          simp
        clear Hq hdn
        rw [Hq2.out] at ho
        go_wp2_with fail
        go_ret
        exact ⟨_, rfl, ho, hg⟩
theorem specRowSort_any (v : Value) (l : List Int) (w : World) (h : RI w v l) : Calls Tryz.prog 152 #[v] w (RowOut w (rowSort l)) := by
  obtain ⟨A, n, c, rfl, hc, hn⟩ := h.form'
  have Hn := Lib.hid hn
  clear hn
  by_cases hok : rowValid l = true
  · have Hr : Hid (rowSort l = some (sortRow l)) := by show _ = _; unfold rowSort; rw [if_pos hok]
    have Hok := Lib.hid hok
    have hn6 : n ≤ 6 := by rw [Hn.out]; exact rowValid_len hok
    clear hok
    go_enter Tryz.func152, Tryz.ntmps152
    go_wp2_with fail
    refine (specRowValid_b _ l _ (h.alloc _) Hok.out).mono ?_
    rintro e w' ⟨rfl, rfl⟩
    have ho0 := OwnI.empty w (Nat.le_refl w.heap.size)
    have hg0 := World.grownBy_alloc w (.cells #[] 3) none
    go_wp2_with fail
    go_loopg [4, 5] (n + 1) (fun mm o i wr => ∃ (k : Nat), k ≤ n ∧ mm = n + 1 - k ∧ i = .int .i64 k ∧ OwnI wr w.heap.size o ((l.take k).foldl putRow []) ∧ w.grownBy wr none)
    case atStart => exact ⟨0, Nat.zero_le _, rfl, rfl, ho0, hg0⟩
    case round =>
      clear ho0 hg0
      obtain ⟨k, hk, rfl, rfl, ho, hg⟩ := hrel
      obtain ⟨Ao, no, co, rfl⟩ := ho.ri.val
      by_cases hlt : k < n
      · obtain ⟨ga, oa, x, rfl, hx, c0⟩ := (h.new hg).at_ hlt
        obtain ⟨hk', hx'⟩ := List.getElem?_eq_some_iff.1 hx
        have hsn : Hid ((l.take (k + 1)).foldl putRow [] = putRow ((l.take k).foldl putRow []) x) := by
          show _ = _
          rw [List.take_succ_eq_append_getElem hk', hx', List.foldl_append]
          rfl
        have hl : ((l.take k).foldl putRow []).length ≤ 12 := by rw [foldl_put_len, List.length_take]; simp; omega
        clear hx hk' hx'
        go_wp2_with fail
        refine (l1Put_any _ _ x _ ho.ri hl).mono ?_
        rintro e w4 ⟨v', rfl, hown4, hg4⟩
        have hown5 := hown4.low hg.size
        have hg5 := hg.trans hg4
        rw [← hsn.out] at hown5
        obtain ⟨A', n', c', rfl⟩ := hown5.ri.val
        go_wp2_with fail
        go_roundg (n + 1 - (k + 1))
        case measure => omega
        case rel => exact ⟨k + 1, by omega, rfl, by go_num, hown5, hg5⟩
      · obtain rfl : k = n := by omega
        have hO2 : OwnI wr w.heap.size (.slice Ao no co) (sortRow l) := by
          have := ho
          rw [List.take_of_length_le (by rw [← Hn.out]; exact Nat.le_refl _)] at this
          exact this
        clear ho
        go_wp2_with fail
        go_ret2
        exact ⟨_, by rw [Hr.out]; rfl, by rw [Hr.out]; exact hO2, hg⟩
  · have hok' : rowValid l = false := by simpa using hok
    have Hr : Hid (rowSort l = none) := by show _ = _; unfold rowSort; rw [if_neg hok]
    have Hok := Lib.hid hok'
    clear hok hok'
    go_enter Tryz.func152, Tryz.ntmps152
    go_wp2_with fail
    refine (specRowValid_b _ l _ (h.alloc _) Hok.out).mono ?_
    rintro e w' ⟨rfl, rfl⟩
    go_wp2_with fail
    go_ret2
    exact ⟨_, by rw [Hr.out]; rfl, by rw [Hr.out]; exact OwnI.empty w (Nat.le_refl _), World.grownBy_alloc w _ none⟩
theorem specRowTurn_any (v : Value) (l : List Int) (w : World) (h : RI w v l) : Calls Tryz.prog 153 #[v] w (RowOut w (rowTurn l)) := by
  obtain ⟨A, n, c, rfl, hc, hn⟩ := h.form'
  have Hn := Lib.hid hn
  clear hn
  by_cases hok : rowValid l = true
  · have Hr : Hid (rowTurn l = some l.reverse) := by show _ = _; unfold rowTurn; rw [if_pos hok]
    have Hok := Lib.hid hok
    have hn6 : n ≤ 6 := by rw [Hn.out]; exact rowValid_len hok
    have hw : IntKind.i64.wrap ((n : Int) - 1) = (n : Int) - 1 := IntWalk.i64_in _ (by omega)
    clear hok
    go_enter Tryz.func153, Tryz.ntmps153
    go_wp2_with fail
    refine (specRowValid_b _ l _ (h.alloc _) Hok.out).mono ?_
    rintro e w' ⟨rfl, rfl⟩
    have ho0 := OwnI.empty w (Nat.le_refl w.heap.size)
    have hg0 := World.grownBy_alloc w (.cells #[] 3) none
    have hl0 : (l.drop n).reverse = [] := by rw [List.drop_eq_nil_of_le (by rw [← Hn.out]; exact Nat.le_refl _)]; rfl
    go_wp2_with fail
    go_loopg [4, 5] (n + 1) (fun mm o i wr => ∃ (j : Nat) (z : Int), j ≤ n ∧ mm = j + 1 ∧ z = (j : Int) - 1 ∧ i = .int .i64 z ∧ OwnI wr w.heap.size o (l.drop j).reverse ∧ w.grownBy wr none)
    case atStart => exact ⟨n, _, Nat.le_refl _, rfl, rfl, by first | rfl | rw [hw], by rw [hl0]; exact ho0, hg0⟩
    case round =>
      clear ho0 hg0 hl0 hw
      obtain ⟨j, z, hk, rfl, hz, rfl, ho, hg⟩ := hrel
      obtain ⟨Ao, no, co, rfl⟩ := ho.ri.val
      cases j with
      | succ k =>
        obtain rfl : z = (k : Int) := by omega
        clear hz
        have hlt : k < n := by omega
        obtain ⟨ga, oa, x, rfl, hx, c0⟩ := (h.new hg).at_ hlt
        have hsn : Hid ((l.drop k).reverse = (l.drop (k + 1)).reverse ++ [x]) := by
          show _ = _
          rw [drop_cons hx, List.reverse_cons]
        have hl : (l.drop (k + 1)).reverse.length ≤ 12 := by rw [List.length_reverse, List.length_drop, ← Hn.out]; omega
        clear hx
        go_wp2_with (at_builtin; go_must (refine wp_push_int (.tmp 18) (.tmp 23) rfl rfl ho (by omega) hg.size rfl rfl ?_))
        intro v' w4 hown4 hg4
        have hg5 := ho.gb hg hg4 (Nat.le_refl _)
        rw [← hsn.out] at hown4
        go_wp2_with fail
        go_roundg (k + 1)
        case measure => omega
        case rel => exact ⟨k, _, by omega, rfl, rfl, by go_num, hown4, hg5⟩
      | zero =>
        obtain rfl : z = -1 := by omega
        have hO2 : OwnI wr w.heap.size (.slice Ao no co) l.reverse := ho
        clear ho hz
        go_wp2_with fail
        go_ret2
        exact ⟨_, by rw [Hr.out]; rfl, by rw [Hr.out]; exact hO2, hg⟩
  · have hok' : rowValid l = false := by simpa using hok
    have Hr : Hid (rowTurn l = none) := by show _ = _; unfold rowTurn; rw [if_neg hok]
    have Hok := Lib.hid hok'
    clear hok hok'
    go_enter Tryz.func153, Tryz.ntmps153
    go_wp2_with fail
    refine (specRowValid_b _ l _ (h.alloc _) Hok.out).mono ?_
    rintro e w' ⟨rfl, rfl⟩
    go_wp2_with fail
    go_ret2
    exact ⟨_, by rw [Hr.out]; rfl, by rw [Hr.out]; exact OwnI.empty w (Nat.le_refl _), World.grownBy_alloc w _ none⟩
end Go.Proofs.YtihobnheficpjaaGreatDoor
namespace Go.Proofs.YtihobnheficpjaaGreatDoor
open Go.RowKit

theorem kindRun_bad {k : Int} {ll : List (List Int)} (h : k = 0 ∨ kindNeeds k ≠ (ll.length : Int)) : kindRun k ll = none := by
  match ll, h with
  | [], h => rfl
  | [a], h =>
    show (if k = 3 then rowSums a else if k = 4 then rowSort a else if k = 5 then rowTurn a else none) = none
    unfold kindNeeds at h
    simp only [List.length_cons, List.length_nil] at h
    repeat rw [if_neg (by intro e; subst e; simp at h)]
  | [a, b], h =>
    show (if k = 1 then rowAdd a b else if k = 2 then rowTimes a b else none) = none
    unfold kindNeeds at h
    simp only [List.length_cons, List.length_nil] at h
    repeat rw [if_neg (by intro e; subst e; simp at h)]
  | a :: b :: c :: d, h => rfl
theorem kindRun_cases {k : Int} {ll : List (List Int)} (h : ¬(k = 0 ∨ kindNeeds k ≠ (ll.length : Int))) :
    (∃ a b, ll = [a, b] ∧ (k = 1 ∨ k = 2)) ∨ (∃ a, ll = [a] ∧ (k = 3 ∨ k = 4 ∨ k = 5)) := by
  unfold kindNeeds at h
  match ll with
  | [] =>
    exfalso
    simp only [List.length_nil] at h
    split at h
    · simp at h
    · split at h
      · omega
      · split at h <;> simp at h
  | [a] =>
    refine .inr ⟨a, rfl, ?_⟩
    simp only [List.length_cons, List.length_nil] at h
    split at h
    · simp at h
    · split at h
      · omega
      · split at h
        · simp at h
        · omega
  | [a, b] =>
    refine .inl ⟨a, b, rfl, ?_⟩
    simp only [List.length_cons, List.length_nil] at h
    split at h
    · simp at h
    · split at h
      · omega
      · split at h
        · omega
        · simp at h
  | a :: b :: c :: d =>
    exfalso
    simp only [List.length_cons] at h
    split at h
    · omega
    · split at h
      · omega
      · split at h <;> omega
set_option maxHeartbeats 1600000 in
set_option maxRecDepth 20000 in
theorem specKindRun_any (k : Int) (v : Value) (ll : List (List Int)) (w : World) (h : RL w v ll) : Calls Tryz.prog 130 #[.int .i64 k, v] w (RowOut w (kindRun k ll)) := by
  obtain ⟨A, n, c, rfl, hc, hn, hn2⟩ := h.form'
  by_cases hbad : k = 0 ∨ kindNeeds k ≠ (ll.length : Int)
  · have Hr := Lib.hid (kindRun_bad hbad)
    rw [← hn] at hbad
    by_cases h0 : k = 0
    · subst h0
      clear hn hbad
      go_enter Tryz.func130, Tryz.ntmps130
      go_wp2_with fail
      go_ret2
      exact ⟨_, by rw [Hr.out]; rfl, by rw [Hr.out]; exact OwnI.empty w (Nat.le_refl _), World.grownBy_alloc w _ none⟩
    · have hne : kindNeeds k ≠ (n : Int) := hbad.resolve_left h0
      have hb1 : (kindNeeds k != (n : Int)) = true := by simpa using hne
      have hb2 : (k == 0) = false := by simpa using h0
      clear hn hbad
      go_enter Tryz.func130, Tryz.ntmps130
      go_wp2_with fail
      refine (specKindNeeds_any _ _).mono ?_
      rintro e w2 ⟨rfl, rfl⟩
      go_wp2_with fail
      go_ret2
      exact ⟨_, by rw [Hr.out]; rfl, by rw [Hr.out]; exact OwnI.empty w (Nat.le_refl _), World.grownBy_alloc w _ none⟩
  · rcases kindRun_cases hbad with ⟨a, b, rfl, hk⟩ | ⟨a, rfl, hk⟩
    · simp only [List.length_cons, List.length_nil, Nat.zero_add] at hn
      subst hn
      clear hbad
      obtain ⟨g, o, l, B, m, e, hA, hl, c0, ha, hm, hme, hmx⟩ := h.at_ (k := 0) (by omega)
      obtain ⟨g', o', l', B', m', e', hA', hl', c1, hb, hm', hme', hmx'⟩ := h.at_ (k := 1) (by omega)
      rw [hA] at hA'
      injection hA' with hA'
      injection hA' with e1 e2 e3
      subst hA e1 e2
      clear e3
      simp only [List.getElem?_cons_zero, List.getElem?_cons_succ, Option.some.injEq] at hl hl'
      subst hl hl'
      clear hm hm'
      have c0 : w.cell? ⟨g, o, none⟩ = some (.slice B m e) := c0
      rcases hk with rfl | rfl
      · have Hn : Hid (kindNeeds 1 = 2) := by show _ = _; decide
        go_enter Tryz.func130, Tryz.ntmps130
        go_wp2_with fail
        refine (specKindNeeds_any _ _).mono ?_
        rw [Hn.out]
        rintro e w2 ⟨rfl, rfl⟩
        go_wp2_with fail
        go_region_law (go_simp; go_at_call 149; refine (specRowAdd_any _ _ a b _ (by exact ha) (by exact hb)).mono ?_; rintro e w3 ⟨v3, rfl, ho, hg⟩; obtain ⟨A', n', c', rfl⟩ := ho.ri.val; have k0 := hg.cell (by exact c0) (by simp); have k1 := hg.cell (by exact c1) (by simp))
        all_goals
          go_wp2_with fail
          go_ret2
          exact ⟨_, rfl, ho, gb_trans (gb_drew (gb_refl _ _)) hg⟩
      · have Hn : Hid (kindNeeds 2 = 2) := by show _ = _; decide
        go_enter Tryz.func130, Tryz.ntmps130
        go_wp2_with fail
        refine (specKindNeeds_any _ _).mono ?_
        rw [Hn.out]
        rintro e w2 ⟨rfl, rfl⟩
        go_wp2_with fail
        go_region_law (go_simp; go_at_call 150; refine (specRowTimes_any _ _ a b _ (by exact ha) (by exact hb)).mono ?_; rintro e w3 ⟨v3, rfl, ho, hg⟩; obtain ⟨A', n', c', rfl⟩ := ho.ri.val; have k0 := hg.cell (by exact c0) (by simp); have k1 := hg.cell (by exact c1) (by simp))
        all_goals
          go_wp2_with fail
          go_ret2
          exact ⟨_, rfl, ho, gb_trans (gb_drew (gb_refl _ _)) hg⟩
    · simp only [List.length_cons, List.length_nil, Nat.zero_add] at hn
      subst hn
      clear hbad
      obtain ⟨g, o, l, B, m, e, rfl, hl, c0, ha, hm, hme, hmx⟩ := h.at_ (k := 0) (by omega)
      simp only [List.getElem?_cons_zero, Option.some.injEq] at hl
      subst hl
      clear hm
      have c0 : w.cell? ⟨g, o, none⟩ = some (.slice B m e) := c0
      rcases hk with rfl | rfl | rfl
      · have Hn : Hid (kindNeeds 3 = 1) := by show _ = _; decide
        go_enter Tryz.func130, Tryz.ntmps130
        go_wp2_with fail
        refine (specKindNeeds_any _ _).mono ?_
        rw [Hn.out]
        rintro e w2 ⟨rfl, rfl⟩
        go_wp2_with fail
        refine (specRowSums_any _ a _ ha).mono ?_
        rintro e w3 ⟨v3, rfl, ho, hg⟩
        obtain ⟨A', n', c', rfl⟩ := ho.ri.val
        go_wp2_with fail
        go_ret2
        exact ⟨_, rfl, ho, hg⟩
      · have Hn : Hid (kindNeeds 4 = 1) := by show _ = _; decide
        go_enter Tryz.func130, Tryz.ntmps130
        go_wp2_with fail
        refine (specKindNeeds_any _ _).mono ?_
        rw [Hn.out]
        rintro e w2 ⟨rfl, rfl⟩
        go_wp2_with fail
        refine (specRowSort_any _ a _ ha).mono ?_
        rintro e w3 ⟨v3, rfl, ho, hg⟩
        obtain ⟨A', n', c', rfl⟩ := ho.ri.val
        go_wp2_with fail
        go_ret2
        exact ⟨_, rfl, ho, hg⟩
      · have Hn : Hid (kindNeeds 5 = 1) := by show _ = _; decide
        go_enter Tryz.func130, Tryz.ntmps130
        go_wp2_with fail
        refine (specKindNeeds_any _ _).mono ?_
        rw [Hn.out]
        rintro e w2 ⟨rfl, rfl⟩
        go_wp2_with fail
        refine (specRowTurn_any _ a _ ha).mono ?_
        rintro e w3 ⟨v3, rfl, ho, hg⟩
        obtain ⟨A', n', c', rfl⟩ := ho.ri.val
        go_wp2_with fail
        go_ret2
        exact ⟨_, rfl, ho, hg⟩
end Go.Proofs.YtihobnheficpjaaGreatDoor
namespace Go.Proofs.YtihobnheficpjaaGreatDoor
open Go.RowKit

theorem as_pp (v : Value) (w : World) : (Instr.typeAssert (.iface 142 v) 138 142 true).run Tryz.prog w = .ok (.tuple #[v, .bool true]) w := by kernel_rfl
theorem as_ll (v : Value) (w : World) : (Instr.typeAssert (.iface 145 v) 138 145 true).run Tryz.prog w = .ok (.tuple #[v, .bool true]) w := by kernel_rfl
theorem as_lp (v : Value) (w : World) : (Instr.typeAssert (.iface 145 v) 138 142 true).run Tryz.prog w = .ok (.tuple #[.agg #[.nilFunc], .bool false]) w := by kernel_rfl
theorem as_pl (v : Value) (w : World) : (Instr.typeAssert (.iface 142 v) 138 145 true).run Tryz.prog w = .ok (.tuple #[.agg #[.nilFunc], .bool false]) w := by kernel_rfl
theorem as_gp (v : Value) (w : World) : (Instr.typeAssert (.iface 172 v) 138 142 true).run Tryz.prog w = .ok (.tuple #[.agg #[.nilFunc], .bool false]) w := by kernel_rfl
theorem as_gl (v : Value) (w : World) : (Instr.typeAssert (.iface 172 v) 138 145 true).run Tryz.prog w = .ok (.tuple #[.agg #[.nilFunc], .bool false]) w := by kernel_rfl
theorem as_np (w : World) : (Instr.typeAssert .nilIface 138 142 true).run Tryz.prog w = .ok (.tuple #[.agg #[.nilFunc], .bool false]) w := by kernel_rfl
theorem as_nl (w : World) : (Instr.typeAssert .nilIface 138 145 true).run Tryz.prog w = .ok (.tuple #[.agg #[.nilFunc], .bool false]) w := by kernel_rfl
attribute [go_sem] as_pp as_ll as_lp as_pl as_gp as_gl as_np as_nl
set_option maxHeartbeats 800000 in
set_option maxRecDepth 20000 in
theorem implKindRun_out (k : Int) (v : Value) (ll : List (List Int)) (w : World) (h : RL w v ll) (hk : k < 0 ∨ 5 < k ∨ k = 0) : Calls Tryz.prog 89 #[.int .i64 k, v] w (RowOut w (kindRun k ll)) := by
  obtain ⟨A, n, c, rfl, hc, hn, hn2⟩ := h.form'
  have Hr : Hid (kindRun k ll = none) := by
    refine kindRun_bad ?_
    rcases hk with hk | hk | hk
    · refine .inr ?_
      unfold kindNeeds
      rw [if_pos (.inl hk)]
      omega
    · refine .inr ?_
      unfold kindNeeds
      rw [if_pos (.inr hk)]
      omega
    · exact .inl hk
  clear hn
  rcases (show (k < 0 ∨ 5 < k) ∨ k = 0 by omega) with hk | rfl
  · have H : Hid (work k = .nilIface) := by
      show work k = .nilIface
      unfold work
      repeat rw [if_neg (by omega)]
    go_enter Tryz.func89, Tryz.ntmps89
    go_wp2_with fail
    refine (workOf_any _ _).mono ?_
    rw [H.out]
    rintro e w' ⟨rfl, rfl⟩
    go_wp2_with fail
    go_ret2
    exact ⟨_, by rw [Hr.out]; rfl, by rw [Hr.out]; exact OwnI.nil _ _, gb_refl _ _⟩
  · go_enter Tryz.func89, Tryz.ntmps89
    go_wp2_with fail
    refine (workOf_any _ _).mono ?_
    simp only [work, if_true]
    rintro e w' ⟨rfl, rfl⟩
    go_wp2_with fail
    go_ret2
    exact ⟨_, by rw [Hr.out]; rfl, by rw [Hr.out]; exact OwnI.nil _ _, gb_refl _ _⟩
set_option maxHeartbeats 800000 in
set_option maxRecDepth 20000 in
theorem implKindRun_lone (k : Int) (v : Value) (ll : List (List Int)) (w : World) (h : RL w v ll) (hk : k = 3 ∨ k = 4 ∨ k = 5) : Calls Tryz.prog 89 #[.int .i64 k, v] w (RowOut w (kindRun k ll)) := by
  obtain ⟨A, n, c, rfl, hc, hn, hn2⟩ := h.form'
  by_cases h1 : n = 1
  · subst h1
    obtain ⟨a, rfl⟩ : ∃ a, ll = [a] := by
      match ll, hn with
      | [a], _ => exact ⟨a, rfl⟩
    clear hn
    obtain ⟨g, o, l, B, m, e, rfl, hl, c0, ha, hm, hme, hmx⟩ := h.at_ (k := 0) (by omega)
    simp only [List.getElem?_cons_zero, Option.some.injEq] at hl
    subst hl
    clear hm
    have c0 : w.cell? ⟨g, o, none⟩ = some (.slice B m e) := c0
    rcases hk with rfl | rfl | rfl
    · go_enter Tryz.func89, Tryz.ntmps89
      go_wp2_with fail
      refine (workOf_any _ _).mono ?_
      simp only [work, if_true]
      rintro e w' ⟨rfl, rfl⟩
      go_wp2_with fail
      refine (loneNeeds_any _ _).mono ?_
      rintro e w2 ⟨rfl, hg⟩
      have hg0 := gb_trans (World.grownBy_alloc w _ none) hg
      have kA := hg.cell (a := ⟨w.heap.size, 0, none⟩) (v := .func (.func 140) #[] #[]) (by simp) (by simp)
      have kB := hg0.cell c0 (by simp)
      have ha2 := ha.new hg0
      clear c0
      clear hg
      go_wp2_with fail
      go_region_law (go_simp; go_at_call 140; refine (implRowSums_any _ a _ (by exact ha2)).mono ?_; rintro e w3 ⟨v3, rfl, ho, hg⟩; obtain ⟨A', n', c', rfl⟩ := ho.ri.val; have k0 := hg.cell (by exact kB) (by simp); have k2 := hg.cell (by exact kA) (by simp))
      all_goals
        go_wp2_with fail
        go_ret2
        exact ⟨_, rfl, ho.low hg0.size, gb_trans (gb_drew hg0) hg⟩
    · go_enter Tryz.func89, Tryz.ntmps89
      go_wp2_with fail
      refine (workOf_any _ _).mono ?_
      simp only [work, if_true]
      rintro e w' ⟨rfl, rfl⟩
      go_wp2_with fail
      refine (loneNeeds_any _ _).mono ?_
      rintro e w2 ⟨rfl, hg⟩
      have hg0 := gb_trans (World.grownBy_alloc w _ none) hg
      have kA := hg.cell (a := ⟨w.heap.size, 0, none⟩) (v := .func (.func 141) #[] #[]) (by simp) (by simp)
      have kB := hg0.cell c0 (by simp)
      have ha2 := ha.new hg0
      clear c0
      clear hg
      go_wp2_with fail
      go_region_law (go_simp; go_at_call 141; refine (implRowSort_any _ a _ (by exact ha2)).mono ?_; rintro e w3 ⟨v3, rfl, ho, hg⟩; obtain ⟨A', n', c', rfl⟩ := ho.ri.val; have k0 := hg.cell (by exact kB) (by simp); have k2 := hg.cell (by exact kA) (by simp))
      all_goals
        go_wp2_with fail
        go_ret2
        exact ⟨_, rfl, ho.low hg0.size, gb_trans (gb_drew hg0) hg⟩
    · go_enter Tryz.func89, Tryz.ntmps89
      go_wp2_with fail
      refine (workOf_any _ _).mono ?_
      simp only [work, if_true]
      rintro e w' ⟨rfl, rfl⟩
      go_wp2_with fail
      refine (loneNeeds_any _ _).mono ?_
      rintro e w2 ⟨rfl, hg⟩
      have hg0 := gb_trans (World.grownBy_alloc w _ none) hg
      have kA := hg.cell (a := ⟨w.heap.size, 0, none⟩) (v := .func (.func 142) #[] #[]) (by simp) (by simp)
      have kB := hg0.cell c0 (by simp)
      have ha2 := ha.new hg0
      clear c0
      clear hg
      go_wp2_with fail
      go_region_law (go_simp; go_at_call 142; refine (implRowTurn_any _ a _ (by exact ha2)).mono ?_; rintro e w3 ⟨v3, rfl, ho, hg⟩; obtain ⟨A', n', c', rfl⟩ := ho.ri.val; have k0 := hg.cell (by exact kB) (by simp); have k2 := hg.cell (by exact kA) (by simp))
      all_goals
        go_wp2_with fail
        go_ret2
        exact ⟨_, rfl, ho.low hg0.size, gb_trans (gb_drew hg0) hg⟩
  · have Hr : Hid (kindRun k ll = none) := by
      refine kindRun_bad (.inr ?_)
      rw [← hn]
      rcases hk with rfl | rfl | rfl
      · show (1 : Int) ≠ _; omega
      · show (1 : Int) ≠ _; omega
      · show (1 : Int) ≠ _; omega
    have hne : ((n : Int) == 1) = false := by simp; omega
    clear hn
    rcases hk with rfl | rfl | rfl
    all_goals
      go_enter Tryz.func89, Tryz.ntmps89
      go_wp2_with fail
      refine (workOf_any _ _).mono ?_
      simp only [work, if_true]
      rintro e w' ⟨rfl, rfl⟩
      go_wp2_with fail
      refine (loneNeeds_any _ _).mono ?_
      rintro e w2 ⟨rfl, hg⟩
      go_wp2_with fail
      go_ret2
      exact ⟨_, by rw [Hr.out]; rfl, by rw [Hr.out]; exact OwnI.nil _ _, gb_trans (World.grownBy_alloc w _ none) hg⟩
set_option maxHeartbeats 1600000 in
set_option maxRecDepth 20000 in
theorem implKindRun_pair (k : Int) (v : Value) (ll : List (List Int)) (w : World) (h : RL w v ll) (hk : k = 1 ∨ k = 2) : Calls Tryz.prog 89 #[.int .i64 k, v] w (RowOut w (kindRun k ll)) := by
  obtain ⟨A, n, c, rfl, hc, hn, hn2⟩ := h.form'
  by_cases h1 : n = 2
  · subst h1
    obtain ⟨a, b, rfl⟩ : ∃ a b, ll = [a, b] := by
      match ll, hn with
      | [a, b], _ => exact ⟨a, b, rfl⟩
    clear hn
    obtain ⟨g, o, l, B, m, e, hA, hl, c0, ha, hm, hme, hmx⟩ := h.at_ (k := 0) (by omega)
    obtain ⟨g', o', l', B', m', e', hA', hl', c1, hb, hm', hme', hmx'⟩ := h.at_ (k := 1) (by omega)
    rw [hA] at hA'
    injection hA' with hA'
    injection hA' with e1 e2 e3
    subst hA e1 e2
    clear e3
    simp only [List.getElem?_cons_zero, List.getElem?_cons_succ, Option.some.injEq] at hl hl'
    subst hl hl'
    clear hm hm'
    have c0 : w.cell? ⟨g, o, none⟩ = some (.slice B m e) := c0
    rcases hk with rfl | rfl
    · go_enter Tryz.func89, Tryz.ntmps89
      go_wp2_with fail
      refine (workOf_any _ _).mono ?_
      simp only [work, if_true]
      rintro e w' ⟨rfl, rfl⟩
      go_wp2_with fail
      refine (pairNeeds_any _ _).mono ?_
      rintro e w2 ⟨rfl, hg⟩
      have hg0 := gb_trans (World.grownBy_alloc w _ none) hg
      have kA := hg.cell (a := ⟨w.heap.size, 0, none⟩) (v := .func (.func 138) #[] #[]) (by simp) (by simp)
      have kB := hg0.cell c0 (by simp)
      have kC := hg0.cell c1 (by simp)
      have ha2 := ha.new hg0
      have hb2 := hb.new hg0
      clear c1
      clear c0
      clear hg
      go_wp2_with fail
      go_region_law (go_simp; go_at_call 138; refine (implRowAdd_any _ _ a b _ (by exact ha2) (by exact hb2)).mono ?_; rintro e w3 ⟨v3, rfl, ho, hg⟩; obtain ⟨A', n', c', rfl⟩ := ho.ri.val; have k0 := hg.cell (by exact kB) (by simp); have k1 := hg.cell (by exact kC) (by simp); have k2 := hg.cell (by exact kA) (by simp))
      all_goals
        go_wp2_with fail
        go_ret2
        exact ⟨_, rfl, ho.low hg0.size, gb_trans (gb_drew hg0) hg⟩
    · go_enter Tryz.func89, Tryz.ntmps89
      go_wp2_with fail
      refine (workOf_any _ _).mono ?_
      simp only [work, if_true]
      rintro e w' ⟨rfl, rfl⟩
      go_wp2_with fail
      refine (pairNeeds_any _ _).mono ?_
      rintro e w2 ⟨rfl, hg⟩
      have hg0 := gb_trans (World.grownBy_alloc w _ none) hg
      have kA := hg.cell (a := ⟨w.heap.size, 0, none⟩) (v := .func (.func 139) #[] #[]) (by simp) (by simp)
      have kB := hg0.cell c0 (by simp)
      have kC := hg0.cell c1 (by simp)
      have ha2 := ha.new hg0
      have hb2 := hb.new hg0
      clear c1
      clear c0
      clear hg
      go_wp2_with fail
      go_region_law (go_simp; go_at_call 139; refine (implRowTimes_any _ _ a b _ (by exact ha2) (by exact hb2)).mono ?_; rintro e w3 ⟨v3, rfl, ho, hg⟩; obtain ⟨A', n', c', rfl⟩ := ho.ri.val; have k0 := hg.cell (by exact kB) (by simp); have k1 := hg.cell (by exact kC) (by simp); have k2 := hg.cell (by exact kA) (by simp))
      all_goals
        go_wp2_with fail
        go_ret2
        exact ⟨_, rfl, ho.low hg0.size, gb_trans (gb_drew hg0) hg⟩
  · have Hr : Hid (kindRun k ll = none) := by
      refine kindRun_bad (.inr ?_)
      rw [← hn]
      rcases hk with rfl | rfl
      · show (2 : Int) ≠ _; omega
      · show (2 : Int) ≠ _; omega
    have hne : ((n : Int) == 2) = false := by simp; omega
    clear hn
    rcases hk with rfl | rfl
    all_goals
      go_enter Tryz.func89, Tryz.ntmps89
      go_wp2_with fail
      refine (workOf_any _ _).mono ?_
      simp only [work, if_true]
      rintro e w' ⟨rfl, rfl⟩
      go_wp2_with fail
      refine (pairNeeds_any _ _).mono ?_
      rintro e w2 ⟨rfl, hg⟩
      go_wp2_with fail
      go_ret2
      exact ⟨_, by rw [Hr.out]; rfl, by rw [Hr.out]; exact OwnI.nil _ _, gb_trans (World.grownBy_alloc w _ none) hg⟩
theorem implKindRun_any (k : Int) (v : Value) (ll : List (List Int)) (w : World) (h : RL w v ll) : Calls Tryz.prog 89 #[.int .i64 k, v] w (RowOut w (kindRun k ll)) := by
  rcases (show (k < 0 ∨ 5 < k ∨ k = 0) ∨ (k = 1 ∨ k = 2) ∨ (k = 3 ∨ k = 4 ∨ k = 5) by omega) with hk | hk | hk
  · exact implKindRun_out k v ll w h hk
  · exact implKindRun_pair k v ll w h hk
  · exact implKindRun_lone k v ll w h hk
end Go.Proofs.YtihobnheficpjaaGreatDoor
