/- Walks: slices.Sort of few integers. · Walks: slices.Grow on nil, slices.Concat. · Walks: impl.LevelOf. -/
import Derived.Test.YtihobnheficpjaaGreatDoorM23
import Derived.Lib.AppendZeros
import Derived.Test.YtihobnheficpjaaGreatDoorM14
import Derived.Test.YtihobnheficpjaaGreatDoorM12
namespace Go.Proofs.YtihobnheficpjaaGreatDoor
open Go.RowKit

theorem sortInts_any (v : Value) (base : Nat) (l : List Int) (w : World) (h : OwnI w base v l) (hl : l.length ≤ 12) :
    Calls Tryz.prog 112 #[v] w (SortOut w base v (sortRow l)) := by
  have hlen := h.1
  rcases id h.2 with ⟨e, hz⟩ | ⟨g, cap, cur, e, -⟩
  · have hl0 : l = [] := List.eq_nil_of_length_eq_zero (by omega)
    subst hl0 e
    go_enter Tryz.func112, Tryz.ntmps112
    go_wp2_with fail
    refine (bitsLen_any 0 (by omega) _).mono ?_
    rintro e w' ⟨⟨z, rfl⟩, rfl⟩
    go_wp2_with fail
    refine (pdq0_any z _).mono ?_
    rintro e w1 ⟨rfl, rfl⟩
    go_wp2_with fail
    exact bodyPost_ret (results_none rfl _ _ _) rfl ⟨rfl, h, gb_refl _ _⟩
  · subst e
    generalize hn : l.length = n at *
    have Hn := Lib.hid hn
    clear hn hlen
    go_enter Tryz.func112, Tryz.ntmps112
    go_wp2_with fail
    refine (bitsLen_any n hl _).mono ?_
    rintro e w' ⟨⟨z, rfl⟩, rfl⟩
    go_wp2_with fail
    refine (pdq_any g n cap base l _ h Hn.out.symm hl z).mono ?_
    rintro e w1 ⟨rfl, ho, hg⟩
    go_wp2_with fail
    exact bodyPost_ret (results_none rfl _ _ _) rfl ⟨rfl, ho, hg⟩
end Go.Proofs.YtihobnheficpjaaGreatDoor
namespace Go.Proofs.YtihobnheficpjaaGreatDoor
open Go.RowKit

theorem grow_any (n : Nat) (w : World) (hn : n ≤ 1000) : Calls Tryz.prog 131 #[.slice none 0 0, .int .i64 n] w (IntsOut w []) := by
  by_cases h0 : n = 0
  · subst h0
    go_enter Tryz.func131, Tryz.ntmps131
    go_wp2_with fail
    go_ret
    exact ⟨_, rfl, OwnI.nil _ _, gb_refl _ _⟩
  · obtain ⟨i, hi, hz0, hz1, hz2⟩ := info_parts info3
    have hpos : 0 < n := by omega
    have hr := fun ty => Lib.run_append_nil_zeros (P := Tryz.prog) w 25 3 ty 3 i (.int .i64 0) .i64 .i64 Tryz.underlying25 Tryz.underlying3 hi hz0 n hpos (by omega) (by omega) (by rw [hz2]; omega)
    have hge : n ≤ grownCap w n 0 3 := grownCap_ge w _ _ _
    have hmx : grownCap w n 0 3 ≤ maxLen := grownCap_le_maxLen w n 0 3 (by unfold maxLen; omega)
    generalize grownCap w n 0 3 = G at hr hge hmx
    have ho : OwnI (w.drew.alloc (.cells (Builtin.zeroCells (Value.int .i64 0).cells n ++ Builtin.zeroCells (Value.int .i64 0).cells (G - n)) 3)) w.heap.size (.slice (some ⟨w.heap.size, 0, none⟩) 0 G) [] := by
      refine ⟨rfl, .inr ⟨w.heap.size, G, _, rfl, Nat.le_refl _, heap_alloc_new w.drew _, Nat.zero_le _, hmx, ?_, by simp⟩⟩
      rw [Array.size_append, size_zeroCells, size_zeroCells]
      show n * 1 + (G - n) * 1 = G * 1
      omega
    have hg : w.grownBy (w.drew.alloc (.cells (Builtin.zeroCells (Value.int .i64 0).cells n ++ Builtin.zeroCells (Value.int .i64 0).cells (G - n)) 3)) none := gb_trans (gb_drew (gb_refl w none)) (World.grownBy_alloc w.drew _ none)
    have hG63 : G ≤ 9223372036854775807 := by unfold maxLen at hmx; omega
    generalize Builtin.zeroCells (Value.int .i64 0).cells n ++ Builtin.zeroCells (Value.int .i64 0).cells (G - n) = Z at hr ho hg
    clear hz0 hz1 hz2 hi
    go_enter Tryz.func131, Tryz.ntmps131
    go_wp2_with (at_builtin; refine Lib.wpList_append_run _ rfl _ _ _ _ rfl _ _ rfl rfl _ _ (hr _) ?_)
    go_ret
    exact ⟨_, rfl, ho, hg⟩
/-- 'append(list, x...)' onto an own row. -/
theorem wp_extend_i {ops : Array Oper} {rest : List Oper} {o : Oper} {a : Act} {Q : Exit → Act → World → Prop} {w : World}
    (s x : Operand) (t : TypeId) (ht : Tryz.prog.underlying t = some (.slice 3)) (hgd : o.guard = none) (ho : o.op = .call { callee := .builtin .append, args := #[s, x], argTypes := #[t, t] })
    {base : Nat} {v xv : Value} {l0 l : List Int} (hown : OwnI w base v l0) (hxv : RI w xv l) (hn : l0.length + l.length ≤ 1000000000) (hbase : base ≤ w.heap.size)
    (hs : a.eval s = v) (hx : a.eval x = xv)
    (h : ∀ v' w', OwnI w' base v' (l0 ++ l) → w.grownBy w' v.ownBlock → wpList Tryz.prog ops Q rest (a.put o.dst v') w') :
    wpList Tryz.prog ops Q (o :: rest) a w := by
  obtain ⟨i, hi, hz0, hz1, hz2⟩ := info_parts info3
  obtain ⟨A, c, e, hc, hcm, hcn⟩ := TS.form hxv
  subst e
  match A, hcn with
  | none, hcn =>
    obtain rfl := hcn rfl
    have hl0 : l = [] := List.eq_nil_of_length_eq_zero (by omega)
    subst hl0
    refine wpList_append_own_none hgd s x t ho base 3 i 1 ht hi v _ _ hs hown hx ?_
    rw [List.append_nil] at h
    exact h _ _ hown (gb_refl _ _)
  | some ad, hcn =>
    refine wpList_append_own _ hgd s x t ho base 3 i _ 1 8 ht hi hz0 hz1 hz2 rfl (by decide) v _ _ hs hown ad l.length c (l.map (.int .i64)) hx (by rw [List.length_map, Nat.mul_one]) ?_ (ints_one l) ?_ ?_ hbase ?_
    · intro j u hj
      have hjl := (List.getElem?_eq_some_iff.1 hj).1
      rw [List.length_map] at hjl
      obtain ⟨g, o', cur, e, _, hcell⟩ := TS.at_ hxv (by omega)
      have e2 : ad = ⟨g, o', none⟩ := Option.some.inj e
      rw [e2, Addr.add_lit]
      exact hcell j u hj
    · unfold maxLen; omega
    · omega
    · intro v' w' h1 h2 _
      refine h v' w' ?_ h2
      unfold OwnI
      simpa using h1
theorem flat_succ {ll : List (List Int)} {k : Nat} {l : List Int} (h : ll[k]? = some l) : (ll.take (k + 1)).flatten = (ll.take k).flatten ++ l := by
  obtain ⟨hk, rfl⟩ := List.getElem?_eq_some_iff.1 h
  rw [List.take_succ_eq_append_getElem hk, List.flatten_append]
  simp
theorem flat_le (ll : List (List Int)) (k : Nat) : (ll.take k).flatten.length ≤ ll.flatten.length := by
  have e : ll.flatten = (ll.take k).flatten ++ (ll.drop k).flatten := by rw [← List.flatten_append, List.take_append_drop]
  rw [e, List.length_append]
  omega
set_option maxHeartbeats 800000 in
theorem concat_any (v : Value) (ll : List (List Int)) (w : World) (h : RL w v ll) (hl : ll.flatten.length ≤ 1000) (hll : ll.length ≤ 1000) : Calls Tryz.prog 111 #[v] w (IntsOut w ll.flatten) := by
  obtain ⟨A, n, c, rfl⟩ := h.val
  have hn := h.len
  have hn1 : n ≤ 1000 := by omega
  have Hn := Lib.hid hn
  have Hl := Lib.hid hl
  clear hn hl hll
  go_enter Tryz.func111, Tryz.ntmps111
  go_wp2_with fail
  go_loopg [3, 11] (n + 1) (fun mm s i wr => ∃ (k z : Nat), k ≤ n ∧ mm = n + 1 - k ∧ i = .int .i64 k ∧ s = .int .i64 z ∧ w = wr ∧ z ≤ 1000 ∧ Hid (z = (ll.take k).flatten.length))
  case atStart => exact ⟨0, 0, Nat.zero_le _, rfl, rfl, rfl, rfl, Nat.zero_le _, rfl⟩
  case round =>
    obtain ⟨k, z, hk, rfl, rfl, rfl, rfl, hz, Hz⟩ := hrel
    by_cases hlt : k < n
    · obtain ⟨g, o, l, B, m, e, rfl, hx, c0, hr, hm, -, -⟩ := h.at_ hlt
      have hz2 : Hid (z + m = (ll.take (k + 1)).flatten.length) := by show _ = _; rw [flat_succ hx, List.length_append, ← Hz.out, hm]
      have hzm : z + m ≤ 1000 := by have := flat_le ll (k + 1); have := hz2.out; have := Hl.out; omega
      clear hx hr hm
      go_wp2_with fail
      go_roundg (n + 1 - (k + 1))
      case measure => omega
      case rel => exact ⟨k + 1, z + m, by omega, rfl, by go_num, by go_num, rfl, hzm, hz2⟩
    · obtain rfl : n = k := by omega
      go_wp2_with fail
      refine (grow_any z w hz).mono ?_
      rintro e w1 ⟨v1, rfl, ho, hg⟩
      obtain ⟨A1, n1, c1, rfl⟩ := ho.ri.val
      go_wp2_with fail
      go_loopg [6, 27] (n + 1) (fun mm s i wr => ∃ (k : Nat), k ≤ n ∧ mm = n + 1 - k ∧ i = .int .i64 k ∧ OwnI wr w.heap.size s (ll.take k).flatten ∧ w.grownBy wr none)
      case atStart => exact ⟨0, Nat.zero_le _, rfl, rfl, by exact ho, hg⟩
      case round =>
        clear ho hg
        obtain ⟨k, hk, rfl, rfl, ho, hg⟩ := hrel
        obtain ⟨A2, n2, c2, rfl⟩ := ho.ri.val
        have h2 := h.new hg
        by_cases hlt : k < n
        · obtain ⟨g, o, l, B, m, e, rfl, hx, c0, hr, hm, -, -⟩ := h2.at_ hlt
          have Hx := Lib.hid hx
          have hb : (ll.take k).flatten.length + l.length ≤ 1000000000 := by
            have h3 := flat_le ll (k + 1)
            rw [flat_succ hx, List.length_append] at h3
            have := Hl.out
            omega
          clear hx hm
          go_wp2_with (at_builtin; go_must (refine wp_extend_i (.tmp 31) (.tmp 32) 25 Tryz.underlying25 rfl rfl ho hr hb hg.size rfl rfl ?_))
          intro v5 w5 ho5 hg5
          have g5 := ho.gb hg hg5 (Nat.le_refl _)
          rw [← flat_succ Hx.out] at ho5
          obtain ⟨A5, n5, c5, rfl⟩ := ho5.ri.val
          go_wp2_with fail
          go_roundg (n + 1 - (k + 1))
          case measure => omega
          case rel => exact ⟨k + 1, by omega, rfl, by go_num, ho5, g5⟩
        · obtain rfl : n = k := by omega
          rw [List.take_of_length_le (Nat.le_of_eq Hn.out.symm)] at ho
          go_wp2_with fail
          go_ret
          exact ⟨_, rfl, ho, hg⟩
end Go.Proofs.YtihobnheficpjaaGreatDoor
namespace Go.Proofs.YtihobnheficpjaaGreatDoor
open Go.RowKit

end Go.Proofs.YtihobnheficpjaaGreatDoor
