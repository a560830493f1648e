/- Walks: slices.Grow on nil, slices.Concat. · Walks: (plannedCrew).dequesFit. · Walks: impl.orderBegins. -/
import Derived.Test.YtihobnheficpjaaGreatM27
import Derived.Lib.AppendZeros
import Derived.Test.YtihobnheficpjaaGreatM24
namespace Go.Proofs.YtihobnheficpjaaGreat
open Go.RowKit

theorem grow_any (n : Nat) (w : World) (hn : n ≤ 1000) : Calls Tryz.prog 80 #[.slice none 0 0, .int .i64 n] w (IntsOut w []) := by
  by_cases h0 : n = 0
  · subst h0
    go_enter Tryz.func80, Tryz.ntmps80
    go_wp2_with fail
    go_ret
    exact ⟨_, rfl, OwnI.nil _ _, gb_refl _ _⟩
  · obtain ⟨i, hi, hz0, hz1, hz2⟩ := info_parts info3
    have hpos : 0 < n := by omega
    have hr := fun ty => Lib.run_append_nil_zeros (P := Tryz.prog) w 25 3 ty 3 i (.int .i64 0) .i64 .i64 Tryz.underlying25 Tryz.underlying3 hi hz0 n hpos (by omega) (by omega) (by rw [hz2]; omega)
    have hge : n ≤ grownCap w n 0 3 := grownCap_ge w _ _ _
    have hmx : grownCap w n 0 3 ≤ maxLen := grownCap_le_maxLen w n 0 3 (by unfold maxLen; omega)
    generalize grownCap w n 0 3 = G at hr hge hmx
    have ho : OwnI (w.drew.alloc (.cells (Builtin.zeroCells (Value.int .i64 0).cells n ++ Builtin.zeroCells (Value.int .i64 0).cells (G - n)) 3)) w.heap.size (.slice (some ⟨w.heap.size, 0, none⟩) 0 G) [] := by
      refine ⟨rfl, .inr ⟨w.heap.size, G, _, rfl, Nat.le_refl _, heap_alloc_new w.drew _, Nat.zero_le _, hmx, ?_, by simp⟩⟩
      rw [Array.size_append, size_zeroCells, size_zeroCells]
      show n * 1 + (G - n) * 1 = G * 1
      omega
    have hg : w.grownBy (w.drew.alloc (.cells (Builtin.zeroCells (Value.int .i64 0).cells n ++ Builtin.zeroCells (Value.int .i64 0).cells (G - n)) 3)) none := gb_trans (gb_drew (gb_refl w none)) (World.grownBy_alloc w.drew _ none)
    have hG63 : G ≤ 9223372036854775807 := by unfold maxLen at hmx; omega
    generalize Builtin.zeroCells (Value.int .i64 0).cells n ++ Builtin.zeroCells (Value.int .i64 0).cells (G - n) = Z at hr ho hg
    clear hz0 hz1 hz2 hi
    go_enter Tryz.func80, Tryz.ntmps80
    go_wp2_with (at_builtin; refine Lib.wpList_append_run _ rfl _ _ _ _ rfl _ _ rfl rfl _ _ (hr _) ?_)
    go_ret
    exact ⟨_, rfl, ho, hg⟩
/-- 'append(list, x...)' onto an own row. -/
theorem wp_extend_i {ops : Array Oper} {rest : List Oper} {o : Oper} {a : Act} {Q : Exit → Act → World → Prop} {w : World}
    (s x : Operand) (t : TypeId) (ht : Tryz.prog.underlying t = some (.slice 3)) (hgd : o.guard = none) (ho : o.op = .call { callee := .builtin .append, args := #[s, x], argTypes := #[t, t] })
    {base : Nat} {v xv : Value} {l0 l : List Int} (hown : OwnI w base v l0) (hxv : RI w xv l) (hn : l0.length + l.length ≤ 1000000000) (hbase : base ≤ w.heap.size)
    (hs : a.eval s = v) (hx : a.eval x = xv)
    (h : ∀ v' w', OwnI w' base v' (l0 ++ l) → w.grownBy w' v.ownBlock → wpList Tryz.prog ops Q rest (a.put o.dst v') w') :
    wpList Tryz.prog ops Q (o :: rest) a w := by
  obtain ⟨i, hi, hz0, hz1, hz2⟩ := info_parts info3
  obtain ⟨A, c, e, hc, hcm, hcn⟩ := TS.form hxv
  subst e
  match A, hcn with
  | none, hcn =>
    obtain rfl := hcn rfl
    have hl0 : l = [] := List.eq_nil_of_length_eq_zero (by omega)
    subst hl0
    refine wpList_append_own_none hgd s x t ho base 3 i 1 ht hi v _ _ hs hown hx ?_
    rw [List.append_nil] at h
    exact h _ _ hown (gb_refl _ _)
  | some ad, hcn =>
    refine wpList_append_own _ hgd s x t ho base 3 i _ 1 8 ht hi hz0 hz1 hz2 rfl (by decide) v _ _ hs hown ad l.length c (l.map (.int .i64)) hx (by rw [List.length_map, Nat.mul_one]) ?_ (ints_one l) ?_ ?_ hbase ?_
    · intro j u hj
      have hjl := (List.getElem?_eq_some_iff.1 hj).1
      rw [List.length_map] at hjl
      obtain ⟨g, o', cur, e, _, hcell⟩ := TS.at_ hxv (by omega)
      have e2 : ad = ⟨g, o', none⟩ := Option.some.inj e
      rw [e2, Addr.add_lit]
      exact hcell j u hj
    · unfold maxLen; omega
    · omega
    · intro v' w' h1 h2 _
      refine h v' w' ?_ h2
      unfold OwnI
      simpa using h1
theorem flat_succ {ll : List (List Int)} {k : Nat} {l : List Int} (h : ll[k]? = some l) : (ll.take (k + 1)).flatten = (ll.take k).flatten ++ l := by
  obtain ⟨hk, rfl⟩ := List.getElem?_eq_some_iff.1 h
  rw [List.take_succ_eq_append_getElem hk, List.flatten_append]
  simp
theorem flat_le (ll : List (List Int)) (k : Nat) : (ll.take k).flatten.length ≤ ll.flatten.length := by
  have e : ll.flatten = (ll.take k).flatten ++ (ll.drop k).flatten := by rw [← List.flatten_append, List.take_append_drop]
  rw [e, List.length_append]
  omega
set_option maxHeartbeats 800000 in
theorem concat_any (v : Value) (ll : List (List Int)) (w : World) (h : RL w v ll) (hl : ll.flatten.length ≤ 1000) (hll : ll.length ≤ 1000) : Calls Tryz.prog 55 #[v] w (IntsOut w ll.flatten) := by
  obtain ⟨A, n, c, rfl⟩ := h.val
  have hn := h.len
  have hn1 : n ≤ 1000 := by omega
  have Hn := Lib.hid hn
  have Hl := Lib.hid hl
  clear hn hl hll
  go_enter Tryz.func55, Tryz.ntmps55
  go_wp2_with fail
  go_loopg [3, 11] (n + 1) (fun mm s i wr => ∃ (k z : Nat), k ≤ n ∧ mm = n + 1 - k ∧ i = .int .i64 k ∧ s = .int .i64 z ∧ w = wr ∧ z ≤ 1000 ∧ Hid (z = (ll.take k).flatten.length))
  case atStart => exact ⟨0, 0, Nat.zero_le _, rfl, rfl, rfl, rfl, Nat.zero_le _, rfl⟩
  case round =>
    obtain ⟨k, z, hk, rfl, rfl, rfl, rfl, hz, Hz⟩ := hrel
    by_cases hlt : k < n
    · obtain ⟨g, o, l, B, m, e, rfl, hx, c0, hr, hm, -, -⟩ := h.at_ hlt
      have hz2 : Hid (z + m = (ll.take (k + 1)).flatten.length) := by show _ = _; rw [flat_succ hx, List.length_append, ← Hz.out, hm]
      have hzm : z + m ≤ 1000 := by have := flat_le ll (k + 1); have := hz2.out; have := Hl.out; omega
      clear hx hr hm
      go_wp2_with fail
      go_roundg (n + 1 - (k + 1))
      case measure => omega
      case rel => exact ⟨k + 1, z + m, by omega, rfl, by go_num, by go_num, rfl, hzm, hz2⟩
    · obtain rfl : n = k := by omega
      go_wp2_with fail
      refine (grow_any z w hz).mono ?_
      rintro e w1 ⟨v1, rfl, ho, hg⟩
      obtain ⟨A1, n1, c1, rfl⟩ := ho.ri.val
      go_wp2_with fail
      go_loopg [6, 27] (n + 1) (fun mm s i wr => ∃ (k : Nat), k ≤ n ∧ mm = n + 1 - k ∧ i = .int .i64 k ∧ OwnI wr w.heap.size s (ll.take k).flatten ∧ w.grownBy wr none)
      case atStart => exact ⟨0, Nat.zero_le _, rfl, rfl, by exact ho, hg⟩
      case round =>
        clear ho hg
        obtain ⟨k, hk, rfl, rfl, ho, hg⟩ := hrel
        obtain ⟨A2, n2, c2, rfl⟩ := ho.ri.val
        have h2 := h.new hg
        by_cases hlt : k < n
        · obtain ⟨g, o, l, B, m, e, rfl, hx, c0, hr, hm, -, -⟩ := h2.at_ hlt
          have Hx := Lib.hid hx
          have hb : (ll.take k).flatten.length + l.length ≤ 1000000000 := by
            have h3 := flat_le ll (k + 1)
            rw [flat_succ hx, List.length_append] at h3
            have := Hl.out
            omega
          clear hx hm
          go_wp2_with (at_builtin; go_must (refine wp_extend_i (.tmp 31) (.tmp 32) 25 Tryz.underlying25 rfl rfl ho hr hb hg.size rfl rfl ?_))
          intro v5 w5 ho5 hg5
          have g5 := ho.gb hg hg5 (Nat.le_refl _)
          rw [← flat_succ Hx.out] at ho5
          obtain ⟨A5, n5, c5, rfl⟩ := ho5.ri.val
          go_wp2_with fail
          go_roundg (n + 1 - (k + 1))
          case measure => omega
          case rel => exact ⟨k + 1, by omega, rfl, by go_num, ho5, g5⟩
        · obtain rfl : n = k := by omega
          rw [List.take_of_length_le (Nat.le_of_eq Hn.out.symm)] at ho
          go_wp2_with fail
          go_ret
          exact ⟨_, rfl, ho, hg⟩
end Go.Proofs.YtihobnheficpjaaGreat
namespace Go.Proofs.YtihobnheficpjaaGreat
open Go.RowKit

theorem readyOf_le (plan : List Node) (D : List Int) (hv : planValid plan = true) : (readyOf plan D).length ≤ 10 := by
  have h := readyOf_len plan D
  have := planValid_len hv
  omega
def DequesOut (w : World) (plan : List Node) (c : Crew) (e : Ending) (w' : World) : Prop := ∃ b, e = .returned (.bool b) ∧ (b = true ↔ c.deques.flatten.Perm (readyOf plan c.done)) ∧ w.grownBy w' none
set_option maxHeartbeats 1600000 in
set_option maxRecDepth 20000 in
theorem implDequesFit_any (v : Value) (plan : List Node) (vs : List (List Int)) (c : Crew) (w : World) (h : PCV w v plan vs c) (hv : planValid plan = true) (hd4 : c.deques.length ≤ 4) (hfit : ∀ d ∈ c.deques, d.length ≤ 1048576) :
    Calls Tryz.prog 33 #[v] w (DequesOut w plan c) := by
  obtain ⟨A0, n0, c0, A5, n5, c5, A1, n1, c1, A2, n2, c2, A3, n3, c3, A4, n4, c4, rfl, h0, h5, h1, h2, h3, h4⟩ := h
  have hB := Blk.new w 68 #[.slice A0 n0 c0, .slice A5 n5 c5, .slice A1 n1 c1, .slice A2 n2 c2, .slice A3 n3 c3, .slice A4 n4 c4]
  have hg := World.grownBy_alloc w (.cells #[.slice A0 n0 c0, .slice A5 n5 c5, .slice A1 n1 c1, .slice A2 n2 c2, .slice A3 n3 c3, .slice A4 n4 c4] 68) none
  have Hv := Lib.hid hv
  have hn1 := h1.len
  have hn14 : n1 ≤ 4 := by omega
  have Hn1 := Lib.hid hn1
  have Hfit := Lib.hid hfit
  have H4 := Lib.hid hd4
  clear h5 h2 h4 hv hn1 hfit hd4
  have k0 := h0.new hg
  have k1 := h1.new hg
  have k3 := h3.new hg
  clear h0 h1 h3
  go_enter Tryz.func33, Tryz.ntmps33
  go_upto_region 1 with fail
  generalize w.alloc (.cells #[.slice A0 n0 c0, .slice A5 n5 c5, .slice A1 n1 c1, .slice A2 n2 c2, .slice A3 n3 c3, .slice A4 n4 c4] 68) = W at hB hg k0 k1 k3 ⊢
  have q0 := hB.cell 0
  have q4 := hB.cell 4
  go_wp2_with fail
  refine (readyOf_any _ _ plan c.done W k0 k3 Hv.out).mono ?_
  rintro e w1 ⟨rv, rfl, ho1, hg1⟩
  obtain ⟨Ar, nr, cr, rfl, hnr, hlr⟩ := ho1.ri.form'
  have hnr10 : nr ≤ 10 := by have := readyOf_le plan c.done Hv.out; omega
  have Hlr := Lib.hid hlr
  have B1 := hB.grown hg1 (by simp)
  have q2 := B1.cell 2
  have m1 := k1.new hg1
  have g1 := gb_trans hg hg1
  clear k0 k1 k3 hB hg hg1 q0 q4 hlr
  go_wp2_with fail
  go_loopg [4, 19] (n1 + 1) (fun mm s i wr => ∃ (k z : Nat), k ≤ n1 ∧ mm = n1 + 1 - k ∧ i = .int .i64 k ∧ s = .int .i64 z ∧ w1 = wr ∧ z ≤ nr ∧ Hid (z = (c.deques.take k).flatten.length))
  case atStart => exact ⟨0, 0, Nat.zero_le _, rfl, rfl, rfl, rfl, Nat.zero_le _, rfl⟩
  case round =>
    obtain ⟨k, z, hk, rfl, rfl, rfl, rfl, hz, Hz⟩ := hrel
    by_cases hlt : k < n1
    · obtain ⟨g, o, l, B, m, e, rfl, hx, x0, hr, hm, -, -⟩ := m1.at_ hlt
      have hz2 : Hid (z + m = (c.deques.take (k + 1)).flatten.length) := by show _ = _; rw [flat_succ hx, List.length_append, ← Hz.out, hm]
      have hmb : m ≤ 1048576 := by have := Hfit.out l (List.mem_of_getElem? hx); omega
      clear hx hr hm
      by_cases hbig : nr < z + m
      · have hno : Hid (¬ c.deques.flatten.Perm (readyOf plan c.done)) := fun hp => by
          have h1 := hp.length_eq
          have h2 := flat_le c.deques (k + 1)
          have h3 := hz2.out
          have h4 := Hlr.out
          omega
        clear hz2
        go_wp2_with fail
        go_ret
        exact ⟨false, rfl, ⟨fun e2 => (by cases e2), fun e2 => absurd e2 hno.out⟩, g1⟩
      · go_wp2_with fail
        go_roundg (n1 + 1 - (k + 1))
        case measure => omega
        case rel => exact ⟨k + 1, z + m, by omega, rfl, by go_num, by go_num, rfl, by omega, hz2⟩
    · obtain rfl : n1 = k := by omega
      have hfl : c.deques.flatten.length ≤ 10 := by
        have := Hz.out
        rw [List.take_of_length_le (Nat.le_of_eq Hn1.out.symm)] at this
        omega
      have hd1000 : c.deques.length ≤ 1000 := by have := H4.out; omega
      clear Hz
      go_wp2_with fail
      refine (concat_any _ c.deques w1 m1 (by omega) hd1000).mono ?_
      rintro e w2 ⟨av, rfl, ho2, hg2⟩
      have ho1' := ho1.new hg2
      obtain ⟨Aa, na, ca, rfl⟩ := ho2.ri.val
      go_wp2_with fail
      refine (sortInts_any _ w1.heap.size c.deques.flatten w2 ho2 (by omega)).mono ?_
      rintro e w3 ⟨rfl, ho3, hg3⟩
      have g3 := gb_new hg2 hg3 (fun g e => .inl (ho2.lt g e).1)
      have hr3 := ho1.ri.new g3
      have g4 := gb_trans g1 g3
      clear ho1 ho1' hg2 hg3 g3 g1 ho2
      by_cases heq : sortRow c.deques.flatten = readyOf plan c.done
      · have He : Hid (decide (sortRow c.deques.flatten = readyOf plan c.done) = true) := decide_eq_true heq
        have hyes : Hid (c.deques.flatten.Perm (readyOf plan c.done)) := sort_ready.1 heq
        clear heq
        go_wp2_with fail
        refine (sEqual_b _ _ _ _ w3 ho3.ri hr3 He.out).mono ?_
        rintro e w4 ⟨rfl, hg4⟩
        go_wp2_with fail
        go_ret
        exact ⟨true, rfl, ⟨fun _ => hyes.out, fun _ => rfl⟩, gb_trans g4 hg4⟩
      · have He : Hid (decide (sortRow c.deques.flatten = readyOf plan c.done) = false) := decide_eq_false heq
        have hno : Hid (¬ c.deques.flatten.Perm (readyOf plan c.done)) := fun hp => heq (sort_ready.2 hp)
        clear heq
        go_wp2_with fail
        refine (sEqual_b _ _ _ _ w3 ho3.ri hr3 He.out).mono ?_
        rintro e w4 ⟨rfl, hg4⟩
        go_wp2_with fail
        go_ret
        exact ⟨false, rfl, ⟨fun e2 => (by cases e2), fun e2 => absurd e2 hno.out⟩, gb_trans g4 hg4⟩
end Go.Proofs.YtihobnheficpjaaGreat
namespace Go.Proofs.YtihobnheficpjaaGreat
open Go.RowKit

theorem order_stop {plan : List Node} {D : List Int} {k : Nat} {x : Int} (hx : D[k]? = some x) (h : stepOk plan (D.take k) x = false) : orderOk plan D = false := by
  obtain ⟨hk, rfl⟩ := List.getElem?_eq_some_iff.1 hx
  cases ho : orderOk plan D with
  | false => rfl
  | true => rw [order_step ho hk] at h; cases h
theorem orderTo_next {plan : List Node} {D : List Int} {k : Nat} {x : Int} (hx : D[k]? = some x) (ho : orderTo plan D k = true) (h : stepOk plan (D.take k) x = true) : orderTo plan D (k + 1) = true := by
  rw [orderTo_succ, ho, List.getD_eq_getElem?_getD, hx]
  exact h
/-- A step, its number known: three tests. -/
theorem step_iff {plan : List Node} {D : List Int} {q : Nat} {nd : Node} (hv : planValid plan = true) (hq : plan[q]? = some nd) : stepOk plan D (q : Int) = true ↔ inList plan.length D q = false ∧ nd.frm.all (fun x => inList plan.length D x.toNat) = true := by
  have hql := (List.getElem?_eq_some_iff.1 hq).1
  rw [stepOk_iff, Int.toNat_natCast, frmAt_get hq, List.all_eq_true]
  unfold inList
  constructor
  · rintro ⟨-, -, h3, h4⟩
    refine ⟨by simp [h3], fun f hf => ?_⟩
    have := frmAt_mem hv (i := q) (x := f) (by rw [frmAt_get hq]; exact hf)
    rw [Int.toNat_of_nonneg this.1]
    simp [h4 f hf]
    omega
  · rintro ⟨h3, h4⟩
    refine ⟨Int.natCast_nonneg q, Int.ofNat_lt.2 hql, fun e => by simp [hql, e] at h3, fun f hf => ?_⟩
    have h5 := frmAt_mem hv (i := q) (x := f) (by rw [frmAt_get hq]; exact hf)
    have h6 := h4 f hf
    rw [Int.toNat_of_nonneg h5.1] at h6
    simp only [Bool.and_eq_true, decide_eq_true_eq] at h6
    exact h6.2
set_option maxHeartbeats 1600000 in
set_option maxRecDepth 20000 in
theorem orderBegins_any (v dv : Value) (plan : List Node) (D : List Int) (w : World) (h : RN w v plan) (hd : RI w dv D) (hv : planValid plan = true) :
    Calls Tryz.prog 31 #[v, dv] w fun e w' => e = .returned (.bool (orderOk plan D)) ∧ w.grownBy w' none := by
  obtain ⟨A, n, c, rfl, -, hn, -⟩ := h.form'
  obtain ⟨B, m, c', rfl, -, hm⟩ := hd.form'
  have hle := hd.le
  have hm63 : m ≤ 9223372036854775807 := by omega
  have hn10 : n ≤ 10 := by have := planValid_len hv; omega
  have Hn := Lib.hid hn
  have Hm := Lib.hid hm
  have Hv := Lib.hid hv
  clear hn hm hv hle
  have hM0 : MK (w.alloc (.cells #[.bool false, .bool false, .bool false, .bool false, .bool false, .bool false, .bool false, .bool false, .bool false, .bool false] 49)) w.heap.size (inList n (D.take 0)) := by
    have e : marks (inList n (D.take 0)) = #[.bool false, .bool false, .bool false, .bool false, .bool false, .bool false, .bool false, .bool false, .bool false, .bool false] := by
      have : inList n (D.take 0) = fun _ => false := by
        funext i
        simp [inList]
      rw [this]
      rfl
    show Blk _ _ _ _
    rw [e]
    exact Blk.new w _ _
  have hg0 : w.grownBy (w.alloc (.cells #[.bool false, .bool false, .bool false, .bool false, .bool false, .bool false, .bool false, .bool false, .bool false, .bool false] 49)) none := gb_alloc (gb_refl w none) _
  have fin : ∀ w' b, w.grownBy w' none → orderOk plan D = b → (Ending.returned (.bool b) = .returned (.bool (orderOk plan D)) ∧ w.grownBy w' none) := fun w' b hg hr => ⟨by rw [hr], hg⟩
  go_enter Tryz.func31, Tryz.ntmps31
  go_wp2_with fail
  go_loopg [10] (m + 1) (fun mm i wr => ∃ k : Nat, k ≤ m ∧ mm = m + 1 - k ∧ i = .int .i64 k ∧ Hid (MK wr w.heap.size (inList n (D.take k))) ∧ w.grownBy wr none ∧ Hid (orderTo plan D k = true))
  case atStart => exact ⟨0, Nat.zero_le _, rfl, rfl, hM0, hg0, rfl⟩
  case round =>
    clear hM0 hg0
    obtain ⟨k, hk, rfl, rfl, HM, hg, Ho⟩ := hrel
    by_cases hlt : k < m
    · obtain ⟨g, o, x, rfl, hx, c0⟩ := (hd.new hg).at_ hlt
      have Hx := Lib.hid hx
      clear hx
      by_cases hxn : 0 ≤ x ∧ x < n
      · obtain ⟨q, rfl⟩ := Int.eq_ofNat_of_zero_le hxn.1
        have hq : q < n := by omega
        obtain ⟨gp, op, nd, f, r, rfl, hnd, d0, d1, d2, hf, hr⟩ := (h.new hg).at_ hq
        obtain ⟨Af, nf, cf, rfl⟩ := hf.val
        have Hnd := Lib.hid hnd
        have Hst := Lib.hid (step_iff (D := D.take k) Hv.out hnd)
        have Hin : Hid (∀ x ∈ nd.frm, 0 ≤ x ∧ x < 10) := fun x hx => by
          have := frmAt_mem Hv.out (i := q) (x := x) (by rw [frmAt_get Hnd.out]; exact hx)
          omega
        have c1 := HM.out.cell (k := q) (by omega)
        have f1 : wr.frozen? ⟨w.heap.size, q, none⟩ = false := Blk.frozen HM.out q
        have hb1 : Hid ((decide (0 ≤ (q : Int)) && decide ((q : Int) < (n : Int))) = true) := by show _ = _; simp; omega
        clear hnd hxn hr
        by_cases hmk : inList n (D.take k) q = true
        · have Hr : Hid (orderOk plan D = false) := order_stop Hx.out (by
            cases hs : stepOk plan (D.take k) (q : Int) with
            | false => rfl
            | true =>
              have := (Hst.out.1 hs).1
              rw [← Hn.out, hmk] at this
              cases this)
          rw [hmk] at c1
          clear hmk
          have hfin := Lib.hid (fin wr false hg Hr.out)
          clear fin
          go_wp2_with fail
          refine (isNode_b _ _ _ q _ hb1.out).mono ?_
          rintro e w2 ⟨rfl, rfl⟩
          go_wp2_with fail
          go_ret
          exact hfin.out
        · have hmk' : inList n (D.take k) q = false := by simpa using hmk
          rw [hmk'] at c1
          have Hmk := Lib.hid hmk'
          clear hmk hmk'
          by_cases hal : nd.frm.all (fun x => inList n (D.take k) x.toNat) = true
          · have Hal := Lib.hid hal
            clear hal
            have Ho2 : Hid (orderTo plan D (k + 1) = true) := orderTo_next Hx.out Ho.out (Hst.out.2 ⟨by rw [← Hn.out]; exact Hmk.out, by rw [← Hn.out]; exact Hal.out⟩)
            have HM2 : Hid (MK (wr.setCell ⟨w.heap.size, q, none⟩ (.bool true)) w.heap.size (inList n (D.take (k + 1)))) := by
              show Blk _ _ _ _
              rw [inList_snoc n Hx.out, if_pos ⟨Int.natCast_nonneg q, Int.ofNat_lt.2 hq⟩, Int.toNat_natCast, ← marks_set _ (by omega)]
              exact Blk.set_ HM.out q _
            have hg2 : w.grownBy (wr.setCell ⟨w.heap.size, q, none⟩ (.bool true)) none := gb_set (p := ⟨w.heap.size, q, none⟩) hg (.inl (Nat.le_refl _)) _
            clear fin
            go_wp2_with fail
            refine (isNode_b _ _ _ q _ hb1.out).mono ?_
            rintro e w2 ⟨rfl, rfl⟩
            go_wp2_with fail
            refine (allIn_any _ nd.frm w.heap.size _ wr hf HM.out Hin.out Hal.out).mono ?_
            rintro e w2 ⟨rfl, rfl⟩
            go_wp2_with fail
            go_roundg (m + 1 - (k + 1))
            case measure => omega
            case rel => exact ⟨k + 1, by omega, rfl, by go_num, HM2, hg2, Ho2⟩
          · have hal' : nd.frm.all (fun x => inList n (D.take k) x.toNat) = false := by simpa using hal
            have Hal := Lib.hid hal'
            clear hal hal'
            have Hr : Hid (orderOk plan D = false) := order_stop Hx.out (by
              cases hs : stepOk plan (D.take k) (q : Int) with
              | false => rfl
              | true =>
                have := (Hst.out.1 hs).2
                rw [← Hn.out, Hal.out] at this
                cases this)
            have hfin := Lib.hid (fin wr false hg Hr.out)
            clear fin
            go_wp2_with fail
            refine (isNode_b _ _ _ q _ hb1.out).mono ?_
            rintro e w2 ⟨rfl, rfl⟩
            go_wp2_with fail
            refine (allIn_any _ nd.frm w.heap.size _ wr hf HM.out Hin.out Hal.out).mono ?_
            rintro e w2 ⟨rfl, rfl⟩
            go_wp2_with fail
            go_ret
            exact hfin.out
      · have hbn : (decide (0 ≤ x) && decide (x < (n : Int))) = false := by
          rw [Bool.and_eq_false_iff, decide_eq_false_iff_not, decide_eq_false_iff_not]
          omega
        have Hbn := Lib.hid hbn
        have Hr : Hid (orderOk plan D = false) := order_stop Hx.out (by
          cases hs : stepOk plan (D.take k) x with
          | false => rfl
          | true =>
            have h1 := stepOk_iff.1 hs
            have h2 := Hn.out
            exfalso
            exact hxn ⟨h1.1, by omega⟩)
        have hfin := Lib.hid (fin wr false hg Hr.out)
        clear hbn hxn fin
        go_wp2_with fail
        refine (isNode_b _ _ _ x _ Hbn.out).mono ?_
        rintro e w2 ⟨rfl, rfl⟩
        go_wp2_with fail
        go_ret
        exact hfin.out
    · obtain rfl : m = k := by omega
      have Hr : Hid (orderOk plan D = true) := by
        show orderTo plan D D.length = true
        rw [← Hm.out]
        exact Ho.out
      have hfin := Lib.hid (fin wr true hg Hr.out)
      clear fin
      go_wp2_with fail
      go_ret
      exact hfin.out
end Go.Proofs.YtihobnheficpjaaGreat
