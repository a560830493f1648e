/- Walks: spec.KindRun. · Walks: impl.KindRun. · Words for memory: entries, slices of entries. -/
import Derived.Test.YtihobnheficpjaaGreatM15
import Derived.Test.YtihobnheficpjaaGreatM08
import Derived.Test.YtihobnheficpjaaGreatM05
import Derived.Test.YtihobnheficpjaaGreatM10
import Derived.Laws.EntriesVeiled
namespace Go.Proofs.YtihobnheficpjaaGreat
open Go.RowKit

theorem kindRun_bad {k : Int} {ll : List (List Int)} (h : k = 0 ∨ kindNeeds k ≠ (ll.length : Int)) : kindRun k ll = none := by
  match ll, h with
  | [], h => rfl
  | [a], h =>
    show (if k = 3 then rowSums a else if k = 4 then rowSort a else if k = 5 then rowTurn a else none) = none
    unfold kindNeeds at h
    simp only [List.length_cons, List.length_nil] at h
    repeat rw [if_neg (by intro e; subst e; simp at h)]
  | [a, b], h =>
    show (if k = 1 then rowAdd a b else if k = 2 then rowTimes a b else none) = none
    unfold kindNeeds at h
    simp only [List.length_cons, List.length_nil] at h
    repeat rw [if_neg (by intro e; subst e; simp at h)]
  | a :: b :: c :: d, h => rfl
theorem kindRun_cases {k : Int} {ll : List (List Int)} (h : ¬(k = 0 ∨ kindNeeds k ≠ (ll.length : Int))) :
    (∃ a b, ll = [a, b] ∧ (k = 1 ∨ k = 2)) ∨ (∃ a, ll = [a] ∧ (k = 3 ∨ k = 4 ∨ k = 5)) := by
  unfold kindNeeds at h
  match ll with
  | [] =>
    exfalso
    simp only [List.length_nil] at h
    split at h
    · simp at h
    · split at h
      · omega
      · split at h <;> simp at h
  | [a] =>
    refine .inr ⟨a, rfl, ?_⟩
    simp only [List.length_cons, List.length_nil] at h
    split at h
    · simp at h
    · split at h
      · omega
      · split at h
        · simp at h
        · omega
  | [a, b] =>
    refine .inl ⟨a, b, rfl, ?_⟩
    simp only [List.length_cons, List.length_nil] at h
    split at h
    · simp at h
    · split at h
      · omega
      · split at h
        · omega
        · simp at h
  | a :: b :: c :: d =>
    exfalso
    simp only [List.length_cons] at h
    split at h
    · omega
    · split at h
      · omega
      · split at h <;> omega
set_option maxHeartbeats 1600000 in
set_option maxRecDepth 20000 in
theorem specKindRun_any (k : Int) (v : Value) (ll : List (List Int)) (w : World) (h : RL w v ll) : Calls Tryz.prog 85 #[.int .i64 k, v] w (RowOut w (kindRun k ll)) := by
  obtain ⟨A, n, c, rfl, hc, hn, hn2⟩ := h.form'
  by_cases hbad : k = 0 ∨ kindNeeds k ≠ (ll.length : Int)
  · have Hr := Lib.hid (kindRun_bad hbad)
    rw [← hn] at hbad
    by_cases h0 : k = 0
    · subst h0
      clear hn hbad
      go_enter Tryz.func85, Tryz.ntmps85
      go_wp2_with fail
      go_ret2
      exact ⟨_, by rw [Hr.out]; rfl, by rw [Hr.out]; exact OwnI.empty w (Nat.le_refl _), World.grownBy_alloc w _ none⟩
    · have hne : kindNeeds k ≠ (n : Int) := hbad.resolve_left h0
      have hb1 : (kindNeeds k != (n : Int)) = true := by simpa using hne
      have hb2 : (k == 0) = false := by simpa using h0
      clear hn hbad
      go_enter Tryz.func85, Tryz.ntmps85
      go_wp2_with fail
      refine (specKindNeeds_any _ _).mono ?_
      rintro e w2 ⟨rfl, rfl⟩
      go_wp2_with fail
      go_ret2
      exact ⟨_, by rw [Hr.out]; rfl, by rw [Hr.out]; exact OwnI.empty w (Nat.le_refl _), World.grownBy_alloc w _ none⟩
  · rcases kindRun_cases hbad with ⟨a, b, rfl, hk⟩ | ⟨a, rfl, hk⟩
    · simp only [List.length_cons, List.length_nil, Nat.zero_add] at hn
      subst hn
      clear hbad
      obtain ⟨g, o, l, B, m, e, hA, hl, c0, ha, hm, hme, hmx⟩ := h.at_ (k := 0) (by omega)
      obtain ⟨g', o', l', B', m', e', hA', hl', c1, hb, hm', hme', hmx'⟩ := h.at_ (k := 1) (by omega)
      rw [hA] at hA'
      injection hA' with hA'
      injection hA' with e1 e2 e3
      subst hA e1 e2
      clear e3
      simp only [List.getElem?_cons_zero, List.getElem?_cons_succ, Option.some.injEq] at hl hl'
      subst hl hl'
      clear hm hm'
      have c0 : w.cell? ⟨g, o, none⟩ = some (.slice B m e) := c0
      rcases hk with rfl | rfl
      · have Hn : Hid (kindNeeds 1 = 2) := by show _ = _; decide
        go_enter Tryz.func85, Tryz.ntmps85
        go_wp2_with fail
        refine (specKindNeeds_any _ _).mono ?_
        rw [Hn.out]
        rintro e w2 ⟨rfl, rfl⟩
        go_wp2_with fail
        go_region_law (go_simp; go_at_call 110; refine (specRowAdd_any _ _ a b _ (by exact ha) (by exact hb)).mono ?_; rintro e w3 ⟨v3, rfl, ho, hg⟩; obtain ⟨A', n', c', rfl⟩ := ho.ri.val; have k0 := hg.cell (by exact c0) (by simp); have k1 := hg.cell (by exact c1) (by simp))
        all_goals
          go_wp2_with fail
          go_ret2
          exact ⟨_, rfl, ho, gb_trans (gb_drew (gb_refl _ _)) hg⟩
      · have Hn : Hid (kindNeeds 2 = 2) := by show _ = _; decide
        go_enter Tryz.func85, Tryz.ntmps85
        go_wp2_with fail
        refine (specKindNeeds_any _ _).mono ?_
        rw [Hn.out]
        rintro e w2 ⟨rfl, rfl⟩
        go_wp2_with fail
        go_region_law (go_simp; go_at_call 111; refine (specRowTimes_any _ _ a b _ (by exact ha) (by exact hb)).mono ?_; rintro e w3 ⟨v3, rfl, ho, hg⟩; obtain ⟨A', n', c', rfl⟩ := ho.ri.val; have k0 := hg.cell (by exact c0) (by simp); have k1 := hg.cell (by exact c1) (by simp))
        all_goals
          go_wp2_with fail
          go_ret2
          exact ⟨_, rfl, ho, gb_trans (gb_drew (gb_refl _ _)) hg⟩
    · simp only [List.length_cons, List.length_nil, Nat.zero_add] at hn
      subst hn
      clear hbad
      obtain ⟨g, o, l, B, m, e, rfl, hl, c0, ha, hm, hme, hmx⟩ := h.at_ (k := 0) (by omega)
      simp only [List.getElem?_cons_zero, Option.some.injEq] at hl
      subst hl
      clear hm
      have c0 : w.cell? ⟨g, o, none⟩ = some (.slice B m e) := c0
      rcases hk with rfl | rfl | rfl
      · have Hn : Hid (kindNeeds 3 = 1) := by show _ = _; decide
        go_enter Tryz.func85, Tryz.ntmps85
        go_wp2_with fail
        refine (specKindNeeds_any _ _).mono ?_
        rw [Hn.out]
        rintro e w2 ⟨rfl, rfl⟩
        go_wp2_with fail
        refine (specRowSums_any _ a _ ha).mono ?_
        rintro e w3 ⟨v3, rfl, ho, hg⟩
        obtain ⟨A', n', c', rfl⟩ := ho.ri.val
        go_wp2_with fail
        go_ret2
        exact ⟨_, rfl, ho, hg⟩
      · have Hn : Hid (kindNeeds 4 = 1) := by show _ = _; decide
        go_enter Tryz.func85, Tryz.ntmps85
        go_wp2_with fail
        refine (specKindNeeds_any _ _).mono ?_
        rw [Hn.out]
        rintro e w2 ⟨rfl, rfl⟩
        go_wp2_with fail
        refine (specRowSort_any _ a _ ha).mono ?_
        rintro e w3 ⟨v3, rfl, ho, hg⟩
        obtain ⟨A', n', c', rfl⟩ := ho.ri.val
        go_wp2_with fail
        go_ret2
        exact ⟨_, rfl, ho, hg⟩
      · have Hn : Hid (kindNeeds 5 = 1) := by show _ = _; decide
        go_enter Tryz.func85, Tryz.ntmps85
        go_wp2_with fail
        refine (specKindNeeds_any _ _).mono ?_
        rw [Hn.out]
        rintro e w2 ⟨rfl, rfl⟩
        go_wp2_with fail
        refine (specRowTurn_any _ a _ ha).mono ?_
        rintro e w3 ⟨v3, rfl, ho, hg⟩
        obtain ⟨A', n', c', rfl⟩ := ho.ri.val
        go_wp2_with fail
        go_ret2
        exact ⟨_, rfl, ho, hg⟩
end Go.Proofs.YtihobnheficpjaaGreat
namespace Go.Proofs.YtihobnheficpjaaGreat
open Go.RowKit

theorem as_pp (v : Value) (w : World) : (Instr.typeAssert (.iface 107 v) 103 107 true).run Tryz.prog w = .ok (.tuple #[v, .bool true]) w := by kernel_rfl
theorem as_ll (v : Value) (w : World) : (Instr.typeAssert (.iface 111 v) 103 111 true).run Tryz.prog w = .ok (.tuple #[v, .bool true]) w := by kernel_rfl
theorem as_lp (v : Value) (w : World) : (Instr.typeAssert (.iface 111 v) 103 107 true).run Tryz.prog w = .ok (.tuple #[.agg #[.nilFunc], .bool false]) w := by kernel_rfl
theorem as_pl (v : Value) (w : World) : (Instr.typeAssert (.iface 107 v) 103 111 true).run Tryz.prog w = .ok (.tuple #[.agg #[.nilFunc], .bool false]) w := by kernel_rfl
theorem as_gp (v : Value) (w : World) : (Instr.typeAssert (.iface 126 v) 103 107 true).run Tryz.prog w = .ok (.tuple #[.agg #[.nilFunc], .bool false]) w := by kernel_rfl
theorem as_gl (v : Value) (w : World) : (Instr.typeAssert (.iface 126 v) 103 111 true).run Tryz.prog w = .ok (.tuple #[.agg #[.nilFunc], .bool false]) w := by kernel_rfl
theorem as_np (w : World) : (Instr.typeAssert .nilIface 103 107 true).run Tryz.prog w = .ok (.tuple #[.agg #[.nilFunc], .bool false]) w := by kernel_rfl
theorem as_nl (w : World) : (Instr.typeAssert .nilIface 103 111 true).run Tryz.prog w = .ok (.tuple #[.agg #[.nilFunc], .bool false]) w := by kernel_rfl
attribute [go_sem] as_pp as_ll as_lp as_pl as_gp as_gl as_np as_nl
set_option maxHeartbeats 800000 in
set_option maxRecDepth 20000 in
theorem implKindRun_out (k : Int) (v : Value) (ll : List (List Int)) (w : World) (h : RL w v ll) (hk : k < 0 ∨ 5 < k ∨ k = 0) : Calls Tryz.prog 50 #[.int .i64 k, v] w (RowOut w (kindRun k ll)) := by
  obtain ⟨A, n, c, rfl, hc, hn, hn2⟩ := h.form'
  have Hr : Hid (kindRun k ll = none) := by
    refine kindRun_bad ?_
    rcases hk with hk | hk | hk
    · refine .inr ?_
      unfold kindNeeds
      rw [if_pos (.inl hk)]
      omega
    · refine .inr ?_
      unfold kindNeeds
      rw [if_pos (.inr hk)]
      omega
    · exact .inl hk
  clear hn
  rcases (show (k < 0 ∨ 5 < k) ∨ k = 0 by omega) with hk | rfl
  · have H : Hid (work k = .nilIface) := by
      show work k = .nilIface
      unfold work
      repeat rw [if_neg (by omega)]
    go_enter Tryz.func50, Tryz.ntmps50
    go_wp2_with fail
    refine (workOf_any _ _).mono ?_
    rw [H.out]
    rintro e w' ⟨rfl, rfl⟩
    go_wp2_with fail
    go_ret2
    exact ⟨_, by rw [Hr.out]; rfl, by rw [Hr.out]; exact OwnI.nil _ _, gb_refl _ _⟩
  · go_enter Tryz.func50, Tryz.ntmps50
    go_wp2_with fail
    refine (workOf_any _ _).mono ?_
    simp only [work, if_true]
    rintro e w' ⟨rfl, rfl⟩
    go_wp2_with fail
    go_ret2
    exact ⟨_, by rw [Hr.out]; rfl, by rw [Hr.out]; exact OwnI.nil _ _, gb_refl _ _⟩
set_option maxHeartbeats 800000 in
set_option maxRecDepth 20000 in
theorem implKindRun_lone (k : Int) (v : Value) (ll : List (List Int)) (w : World) (h : RL w v ll) (hk : k = 3 ∨ k = 4 ∨ k = 5) : Calls Tryz.prog 50 #[.int .i64 k, v] w (RowOut w (kindRun k ll)) := by
  obtain ⟨A, n, c, rfl, hc, hn, hn2⟩ := h.form'
  by_cases h1 : n = 1
  · subst h1
    obtain ⟨a, rfl⟩ : ∃ a, ll = [a] := by
      match ll, hn with
      | [a], _ => exact ⟨a, rfl⟩
    clear hn
    obtain ⟨g, o, l, B, m, e, rfl, hl, c0, ha, hm, hme, hmx⟩ := h.at_ (k := 0) (by omega)
    simp only [List.getElem?_cons_zero, Option.some.injEq] at hl
    subst hl
    clear hm
    have c0 : w.cell? ⟨g, o, none⟩ = some (.slice B m e) := c0
    rcases hk with rfl | rfl | rfl
    · go_enter Tryz.func50, Tryz.ntmps50
      go_wp2_with fail
      refine (workOf_any _ _).mono ?_
      simp only [work, if_true]
      rintro e w' ⟨rfl, rfl⟩
      go_wp2_with fail
      refine (loneNeeds_any _ _).mono ?_
      rintro e w2 ⟨rfl, hg⟩
      have hg0 := gb_trans (World.grownBy_alloc w _ none) hg
      have kA := hg.cell (a := ⟨w.heap.size, 0, none⟩) (v := .func (.func 95) #[] #[]) (by simp) (by simp)
      have kB := hg0.cell c0 (by simp)
      have ha2 := ha.new hg0
      clear c0
      clear hg
      go_wp2_with fail
      go_region_law (go_simp; go_at_call 95; refine (implRowSums_any _ a _ (by exact ha2)).mono ?_; rintro e w3 ⟨v3, rfl, ho, hg⟩; obtain ⟨A', n', c', rfl⟩ := ho.ri.val; have k0 := hg.cell (by exact kB) (by simp); have k2 := hg.cell (by exact kA) (by simp))
      all_goals
        go_wp2_with fail
        go_ret2
        exact ⟨_, rfl, ho.low hg0.size, gb_trans (gb_drew hg0) hg⟩
    · go_enter Tryz.func50, Tryz.ntmps50
      go_wp2_with fail
      refine (workOf_any _ _).mono ?_
      simp only [work, if_true]
      rintro e w' ⟨rfl, rfl⟩
      go_wp2_with fail
      refine (loneNeeds_any _ _).mono ?_
      rintro e w2 ⟨rfl, hg⟩
      have hg0 := gb_trans (World.grownBy_alloc w _ none) hg
      have kA := hg.cell (a := ⟨w.heap.size, 0, none⟩) (v := .func (.func 96) #[] #[]) (by simp) (by simp)
      have kB := hg0.cell c0 (by simp)
      have ha2 := ha.new hg0
      clear c0
      clear hg
      go_wp2_with fail
      go_region_law (go_simp; go_at_call 96; refine (implRowSort_any _ a _ (by exact ha2)).mono ?_; rintro e w3 ⟨v3, rfl, ho, hg⟩; obtain ⟨A', n', c', rfl⟩ := ho.ri.val; have k0 := hg.cell (by exact kB) (by simp); have k2 := hg.cell (by exact kA) (by simp))
      all_goals
        go_wp2_with fail
        go_ret2
        exact ⟨_, rfl, ho.low hg0.size, gb_trans (gb_drew hg0) hg⟩
    · go_enter Tryz.func50, Tryz.ntmps50
      go_wp2_with fail
      refine (workOf_any _ _).mono ?_
      simp only [work, if_true]
      rintro e w' ⟨rfl, rfl⟩
      go_wp2_with fail
      refine (loneNeeds_any _ _).mono ?_
      rintro e w2 ⟨rfl, hg⟩
      have hg0 := gb_trans (World.grownBy_alloc w _ none) hg
      have kA := hg.cell (a := ⟨w.heap.size, 0, none⟩) (v := .func (.func 97) #[] #[]) (by simp) (by simp)
      have kB := hg0.cell c0 (by simp)
      have ha2 := ha.new hg0
      clear c0
      clear hg
      go_wp2_with fail
      go_region_law (go_simp; go_at_call 97; refine (implRowTurn_any _ a _ (by exact ha2)).mono ?_; rintro e w3 ⟨v3, rfl, ho, hg⟩; obtain ⟨A', n', c', rfl⟩ := ho.ri.val; have k0 := hg.cell (by exact kB) (by simp); have k2 := hg.cell (by exact kA) (by simp))
      all_goals
        go_wp2_with fail
        go_ret2
        exact ⟨_, rfl, ho.low hg0.size, gb_trans (gb_drew hg0) hg⟩
  · have Hr : Hid (kindRun k ll = none) := by
      refine kindRun_bad (.inr ?_)
      rw [← hn]
      rcases hk with rfl | rfl | rfl
      · show (1 : Int) ≠ _; omega
      · show (1 : Int) ≠ _; omega
      · show (1 : Int) ≠ _; omega
    have hne : ((n : Int) == 1) = false := by simp; omega
    clear hn
    rcases hk with rfl | rfl | rfl
    all_goals
      go_enter Tryz.func50, Tryz.ntmps50
      go_wp2_with fail
      refine (workOf_any _ _).mono ?_
      simp only [work, if_true]
      rintro e w' ⟨rfl, rfl⟩
      go_wp2_with fail
      refine (loneNeeds_any _ _).mono ?_
      rintro e w2 ⟨rfl, hg⟩
      go_wp2_with fail
      go_ret2
      exact ⟨_, by rw [Hr.out]; rfl, by rw [Hr.out]; exact OwnI.nil _ _, gb_trans (World.grownBy_alloc w _ none) hg⟩
set_option maxHeartbeats 1600000 in
set_option maxRecDepth 20000 in
theorem implKindRun_pair (k : Int) (v : Value) (ll : List (List Int)) (w : World) (h : RL w v ll) (hk : k = 1 ∨ k = 2) : Calls Tryz.prog 50 #[.int .i64 k, v] w (RowOut w (kindRun k ll)) := by
  obtain ⟨A, n, c, rfl, hc, hn, hn2⟩ := h.form'
  by_cases h1 : n = 2
  · subst h1
    obtain ⟨a, b, rfl⟩ : ∃ a b, ll = [a, b] := by
      match ll, hn with
      | [a, b], _ => exact ⟨a, b, rfl⟩
    clear hn
    obtain ⟨g, o, l, B, m, e, hA, hl, c0, ha, hm, hme, hmx⟩ := h.at_ (k := 0) (by omega)
    obtain ⟨g', o', l', B', m', e', hA', hl', c1, hb, hm', hme', hmx'⟩ := h.at_ (k := 1) (by omega)
    rw [hA] at hA'
    injection hA' with hA'
    injection hA' with e1 e2 e3
    subst hA e1 e2
    clear e3
    simp only [List.getElem?_cons_zero, List.getElem?_cons_succ, Option.some.injEq] at hl hl'
    subst hl hl'
    clear hm hm'
    have c0 : w.cell? ⟨g, o, none⟩ = some (.slice B m e) := c0
    rcases hk with rfl | rfl
    · go_enter Tryz.func50, Tryz.ntmps50
      go_wp2_with fail
      refine (workOf_any _ _).mono ?_
      simp only [work, if_true]
      rintro e w' ⟨rfl, rfl⟩
      go_wp2_with fail
      refine (pairNeeds_any _ _).mono ?_
      rintro e w2 ⟨rfl, hg⟩
      have hg0 := gb_trans (World.grownBy_alloc w _ none) hg
      have kA := hg.cell (a := ⟨w.heap.size, 0, none⟩) (v := .func (.func 93) #[] #[]) (by simp) (by simp)
      have kB := hg0.cell c0 (by simp)
      have kC := hg0.cell c1 (by simp)
      have ha2 := ha.new hg0
      have hb2 := hb.new hg0
      clear c1
      clear c0
      clear hg
      go_wp2_with fail
      go_region_law (go_simp; go_at_call 93; refine (implRowAdd_any _ _ a b _ (by exact ha2) (by exact hb2)).mono ?_; rintro e w3 ⟨v3, rfl, ho, hg⟩; obtain ⟨A', n', c', rfl⟩ := ho.ri.val; have k0 := hg.cell (by exact kB) (by simp); have k1 := hg.cell (by exact kC) (by simp); have k2 := hg.cell (by exact kA) (by simp))
      all_goals
        go_wp2_with fail
        go_ret2
        exact ⟨_, rfl, ho.low hg0.size, gb_trans (gb_drew hg0) hg⟩
    · go_enter Tryz.func50, Tryz.ntmps50
      go_wp2_with fail
      refine (workOf_any _ _).mono ?_
      simp only [work, if_true]
      rintro e w' ⟨rfl, rfl⟩
      go_wp2_with fail
      refine (pairNeeds_any _ _).mono ?_
      rintro e w2 ⟨rfl, hg⟩
      have hg0 := gb_trans (World.grownBy_alloc w _ none) hg
      have kA := hg.cell (a := ⟨w.heap.size, 0, none⟩) (v := .func (.func 94) #[] #[]) (by simp) (by simp)
      have kB := hg0.cell c0 (by simp)
      have kC := hg0.cell c1 (by simp)
      have ha2 := ha.new hg0
      have hb2 := hb.new hg0
      clear c1
      clear c0
      clear hg
      go_wp2_with fail
      go_region_law (go_simp; go_at_call 94; refine (implRowTimes_any _ _ a b _ (by exact ha2) (by exact hb2)).mono ?_; rintro e w3 ⟨v3, rfl, ho, hg⟩; obtain ⟨A', n', c', rfl⟩ := ho.ri.val; have k0 := hg.cell (by exact kB) (by simp); have k1 := hg.cell (by exact kC) (by simp); have k2 := hg.cell (by exact kA) (by simp))
      all_goals
        go_wp2_with fail
        go_ret2
        exact ⟨_, rfl, ho.low hg0.size, gb_trans (gb_drew hg0) hg⟩
  · have Hr : Hid (kindRun k ll = none) := by
      refine kindRun_bad (.inr ?_)
      rw [← hn]
      rcases hk with rfl | rfl
      · show (2 : Int) ≠ _; omega
      · show (2 : Int) ≠ _; omega
    have hne : ((n : Int) == 2) = false := by simp; omega
    clear hn
    rcases hk with rfl | rfl
    all_goals
      go_enter Tryz.func50, Tryz.ntmps50
      go_wp2_with fail
      refine (workOf_any _ _).mono ?_
      simp only [work, if_true]
      rintro e w' ⟨rfl, rfl⟩
      go_wp2_with fail
      refine (pairNeeds_any _ _).mono ?_
      rintro e w2 ⟨rfl, hg⟩
      go_wp2_with fail
      go_ret2
      exact ⟨_, by rw [Hr.out]; rfl, by rw [Hr.out]; exact OwnI.nil _ _, gb_trans (World.grownBy_alloc w _ none) hg⟩
theorem implKindRun_any (k : Int) (v : Value) (ll : List (List Int)) (w : World) (h : RL w v ll) : Calls Tryz.prog 50 #[.int .i64 k, v] w (RowOut w (kindRun k ll)) := by
  rcases (show (k < 0 ∨ 5 < k ∨ k = 0) ∨ (k = 1 ∨ k = 2) ∨ (k = 3 ∨ k = 4 ∨ k = 5) by omega) with hk | hk | hk
  · exact implKindRun_out k v ll w h hk
  · exact implKindRun_pair k v ll w h hk
  · exact implKindRun_lone k v ll w h hk
end Go.Proofs.YtihobnheficpjaaGreat
namespace Go.Proofs.YtihobnheficpjaaGreat
open Go.RowKit

structure Ent where
  kind : Int
  rows : List (List Int)
  out : List Int
deriving DecidableEq, Inhabited
end Go.Proofs.YtihobnheficpjaaGreat
