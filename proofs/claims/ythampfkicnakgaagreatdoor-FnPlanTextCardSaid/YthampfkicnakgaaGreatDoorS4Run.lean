/- Walks: impl.KindRun. -/
import Derived.Test.YthampfkicnakgaaGreatDoorS3Run
import Derived.Test.YthampfkicnakgaaGreatDoorC2Kind
import Derived.Laws.EntriesVeiled
namespace Go.Proofs.YthampfkicnakgaaGreatDoor
open Go.RowKit

theorem as_pp (v : Value) (w : World) : (Instr.typeAssert (.iface 138 v) 134 138 true).run Tryz.prog w = .ok (.tuple #[v, .bool true]) w := by kernel_rfl
theorem as_ll (v : Value) (w : World) : (Instr.typeAssert (.iface 142 v) 134 142 true).run Tryz.prog w = .ok (.tuple #[v, .bool true]) w := by kernel_rfl
theorem as_lp (v : Value) (w : World) : (Instr.typeAssert (.iface 142 v) 134 138 true).run Tryz.prog w = .ok (.tuple #[.agg #[.nilFunc], .bool false]) w := by kernel_rfl
theorem as_pl (v : Value) (w : World) : (Instr.typeAssert (.iface 138 v) 134 142 true).run Tryz.prog w = .ok (.tuple #[.agg #[.nilFunc], .bool false]) w := by kernel_rfl
theorem as_gp (v : Value) (w : World) : (Instr.typeAssert (.iface 159 v) 134 138 true).run Tryz.prog w = .ok (.tuple #[.agg #[.nilFunc], .bool false]) w := by kernel_rfl
theorem as_gl (v : Value) (w : World) : (Instr.typeAssert (.iface 159 v) 134 142 true).run Tryz.prog w = .ok (.tuple #[.agg #[.nilFunc], .bool false]) w := by kernel_rfl
theorem as_np (w : World) : (Instr.typeAssert .nilIface 134 138 true).run Tryz.prog w = .ok (.tuple #[.agg #[.nilFunc], .bool false]) w := by kernel_rfl
theorem as_nl (w : World) : (Instr.typeAssert .nilIface 134 142 true).run Tryz.prog w = .ok (.tuple #[.agg #[.nilFunc], .bool false]) w := by kernel_rfl
attribute [go_sem] as_pp as_ll as_lp as_pl as_gp as_gl as_np as_nl
set_option maxHeartbeats 800000 in
set_option maxRecDepth 20000 in
theorem implKindRun_out (k : Int) (v : Value) (ll : List (List Int)) (w : World) (h : RL w v ll) (hk : k < 0 ∨ 5 < k ∨ k = 0) : Calls Tryz.prog 61 #[.int .i64 k, v] w (RowOut w (kindRun k ll)) := by
  obtain ⟨A, n, c, rfl, hc, hn, hn2⟩ := h.form'
  have Hr : Hid (kindRun k ll = none) := by
    refine kindRun_bad ?_
    rcases hk with hk | hk | hk
    · refine .inr ?_
      unfold kindNeeds
      rw [if_pos (.inl hk)]
      omega
    · refine .inr ?_
      unfold kindNeeds
      rw [if_pos (.inr hk)]
      omega
    · exact .inl hk
  clear hn
  rcases (show (k < 0 ∨ 5 < k) ∨ k = 0 by omega) with hk | rfl
  · have H : Hid (work k = .nilIface) := by
      show work k = .nilIface
      unfold work
      repeat rw [if_neg (by omega)]
    go_enter Tryz.func61, Tryz.ntmps61
    go_wp2_with fail
    refine (workOf_any _ _).mono ?_
    rw [H.out]
    rintro e w' ⟨rfl, rfl⟩
    go_wp2_with fail
    go_ret2
    exact ⟨_, by rw [Hr.out]; rfl, by rw [Hr.out]; exact OwnI.nil _ _, gb_refl _ _⟩
  · go_enter Tryz.func61, Tryz.ntmps61
    go_wp2_with fail
    refine (workOf_any _ _).mono ?_
    simp only [work, if_true]
    rintro e w' ⟨rfl, rfl⟩
    go_wp2_with fail
    go_ret2
    exact ⟨_, by rw [Hr.out]; rfl, by rw [Hr.out]; exact OwnI.nil _ _, gb_refl _ _⟩
set_option maxHeartbeats 800000 in
set_option maxRecDepth 20000 in
theorem implKindRun_lone (k : Int) (v : Value) (ll : List (List Int)) (w : World) (h : RL w v ll) (hk : k = 3 ∨ k = 4 ∨ k = 5) : Calls Tryz.prog 61 #[.int .i64 k, v] w (RowOut w (kindRun k ll)) := by
  obtain ⟨A, n, c, rfl, hc, hn, hn2⟩ := h.form'
  by_cases h1 : n = 1
  · subst h1
    obtain ⟨a, rfl⟩ : ∃ a, ll = [a] := by
      match ll, hn with
      | [a], _ => exact ⟨a, rfl⟩
    clear hn
    obtain ⟨g, o, l, B, m, e, rfl, hl, c0, ha, hm, hme, hmx⟩ := h.at_ (k := 0) (by omega)
    simp only [List.getElem?_cons_zero, Option.some.injEq] at hl
    subst hl
    clear hm
    have c0 : w.cell? ⟨g, o, none⟩ = some (.slice B m e) := c0
    rcases hk with rfl | rfl | rfl
    · go_enter Tryz.func61, Tryz.ntmps61
      go_wp2_with fail
      refine (workOf_any _ _).mono ?_
      simp only [work, if_true]
      rintro e w' ⟨rfl, rfl⟩
      go_wp2_with fail
      refine (loneNeeds_any _ _).mono ?_
      rintro e w2 ⟨rfl, hg⟩
      have hg0 := gb_trans (World.grownBy_alloc w _ none) hg
      have kA := hg.cell (a := ⟨w.heap.size, 0, none⟩) (v := .func (.func 103) #[] #[]) (by simp) (by simp)
      have kB := hg0.cell c0 (by simp)
      have ha2 := ha.new hg0
      clear c0
      clear hg
      go_wp2_with fail
      go_region_law (go_simp; go_at_call 103; refine (implRowSums_any _ a _ (by exact ha2)).mono ?_; rintro e w3 ⟨v3, rfl, ho, hg⟩; obtain ⟨A', n', c', rfl⟩ := ho.ri.val; have k0 := hg.cell (by exact kB) (by simp); have k2 := hg.cell (by exact kA) (by simp))
      all_goals
        go_wp2_with fail
        go_ret2
        exact ⟨_, rfl, ho.low hg0.size, gb_trans (gb_drew hg0) hg⟩
    · go_enter Tryz.func61, Tryz.ntmps61
      go_wp2_with fail
      refine (workOf_any _ _).mono ?_
      simp only [work, if_true]
      rintro e w' ⟨rfl, rfl⟩
      go_wp2_with fail
      refine (loneNeeds_any _ _).mono ?_
      rintro e w2 ⟨rfl, hg⟩
      have hg0 := gb_trans (World.grownBy_alloc w _ none) hg
      have kA := hg.cell (a := ⟨w.heap.size, 0, none⟩) (v := .func (.func 104) #[] #[]) (by simp) (by simp)
      have kB := hg0.cell c0 (by simp)
      have ha2 := ha.new hg0
      clear c0
      clear hg
      go_wp2_with fail
      go_region_law (go_simp; go_at_call 104; refine (implRowSort_any _ a _ (by exact ha2)).mono ?_; rintro e w3 ⟨v3, rfl, ho, hg⟩; obtain ⟨A', n', c', rfl⟩ := ho.ri.val; have k0 := hg.cell (by exact kB) (by simp); have k2 := hg.cell (by exact kA) (by simp))
      all_goals
        go_wp2_with fail
        go_ret2
        exact ⟨_, rfl, ho.low hg0.size, gb_trans (gb_drew hg0) hg⟩
    · go_enter Tryz.func61, Tryz.ntmps61
      go_wp2_with fail
      refine (workOf_any _ _).mono ?_
      simp only [work, if_true]
      rintro e w' ⟨rfl, rfl⟩
      go_wp2_with fail
      refine (loneNeeds_any _ _).mono ?_
      rintro e w2 ⟨rfl, hg⟩
      have hg0 := gb_trans (World.grownBy_alloc w _ none) hg
      have kA := hg.cell (a := ⟨w.heap.size, 0, none⟩) (v := .func (.func 105) #[] #[]) (by simp) (by simp)
      have kB := hg0.cell c0 (by simp)
      have ha2 := ha.new hg0
      clear c0
      clear hg
      go_wp2_with fail
      go_region_law (go_simp; go_at_call 105; refine (implRowTurn_any _ a _ (by exact ha2)).mono ?_; rintro e w3 ⟨v3, rfl, ho, hg⟩; obtain ⟨A', n', c', rfl⟩ := ho.ri.val; have k0 := hg.cell (by exact kB) (by simp); have k2 := hg.cell (by exact kA) (by simp))
      all_goals
        go_wp2_with fail
        go_ret2
        exact ⟨_, rfl, ho.low hg0.size, gb_trans (gb_drew hg0) hg⟩
  · have Hr : Hid (kindRun k ll = none) := by
      refine kindRun_bad (.inr ?_)
      rw [← hn]
      rcases hk with rfl | rfl | rfl
      · show (1 : Int) ≠ _; omega
      · show (1 : Int) ≠ _; omega
      · show (1 : Int) ≠ _; omega
    have hne : ((n : Int) == 1) = false := by simp; omega
    clear hn
    rcases hk with rfl | rfl | rfl
    all_goals
      go_enter Tryz.func61, Tryz.ntmps61
      go_wp2_with fail
      refine (workOf_any _ _).mono ?_
      simp only [work, if_true]
      rintro e w' ⟨rfl, rfl⟩
      go_wp2_with fail
      refine (loneNeeds_any _ _).mono ?_
      rintro e w2 ⟨rfl, hg⟩
      go_wp2_with fail
      go_ret2
      exact ⟨_, by rw [Hr.out]; rfl, by rw [Hr.out]; exact OwnI.nil _ _, gb_trans (World.grownBy_alloc w _ none) hg⟩
set_option maxHeartbeats 1600000 in
set_option maxRecDepth 20000 in
theorem implKindRun_pair (k : Int) (v : Value) (ll : List (List Int)) (w : World) (h : RL w v ll) (hk : k = 1 ∨ k = 2) : Calls Tryz.prog 61 #[.int .i64 k, v] w (RowOut w (kindRun k ll)) := by
  obtain ⟨A, n, c, rfl, hc, hn, hn2⟩ := h.form'
  by_cases h1 : n = 2
  · subst h1
    obtain ⟨a, b, rfl⟩ : ∃ a b, ll = [a, b] := by
      match ll, hn with
      | [a, b], _ => exact ⟨a, b, rfl⟩
    clear hn
    obtain ⟨g, o, l, B, m, e, hA, hl, c0, ha, hm, hme, hmx⟩ := h.at_ (k := 0) (by omega)
    obtain ⟨g', o', l', B', m', e', hA', hl', c1, hb, hm', hme', hmx'⟩ := h.at_ (k := 1) (by omega)
    rw [hA] at hA'
    injection hA' with hA'
    injection hA' with e1 e2 e3
    subst hA e1 e2
    clear e3
    simp only [List.getElem?_cons_zero, List.getElem?_cons_succ, Option.some.injEq] at hl hl'
    subst hl hl'
    clear hm hm'
    have c0 : w.cell? ⟨g, o, none⟩ = some (.slice B m e) := c0
    rcases hk with rfl | rfl
    · go_enter Tryz.func61, Tryz.ntmps61
      go_wp2_with fail
      refine (workOf_any _ _).mono ?_
      simp only [work, if_true]
      rintro e w' ⟨rfl, rfl⟩
      go_wp2_with fail
      refine (pairNeeds_any _ _).mono ?_
      rintro e w2 ⟨rfl, hg⟩
      have hg0 := gb_trans (World.grownBy_alloc w _ none) hg
      have kA := hg.cell (a := ⟨w.heap.size, 0, none⟩) (v := .func (.func 101) #[] #[]) (by simp) (by simp)
      have kB := hg0.cell c0 (by simp)
      have kC := hg0.cell c1 (by simp)
      have ha2 := ha.new hg0
      have hb2 := hb.new hg0
      clear c1
      clear c0
      clear hg
      go_wp2_with fail
      go_region_law (go_simp; go_at_call 101; refine (implRowAdd_any _ _ a b _ (by exact ha2) (by exact hb2)).mono ?_; rintro e w3 ⟨v3, rfl, ho, hg⟩; obtain ⟨A', n', c', rfl⟩ := ho.ri.val; have k0 := hg.cell (by exact kB) (by simp); have k1 := hg.cell (by exact kC) (by simp); have k2 := hg.cell (by exact kA) (by simp))
      all_goals
        go_wp2_with fail
        go_ret2
        exact ⟨_, rfl, ho.low hg0.size, gb_trans (gb_drew hg0) hg⟩
    · go_enter Tryz.func61, Tryz.ntmps61
      go_wp2_with fail
      refine (workOf_any _ _).mono ?_
      simp only [work, if_true]
      rintro e w' ⟨rfl, rfl⟩
      go_wp2_with fail
      refine (pairNeeds_any _ _).mono ?_
      rintro e w2 ⟨rfl, hg⟩
      have hg0 := gb_trans (World.grownBy_alloc w _ none) hg
      have kA := hg.cell (a := ⟨w.heap.size, 0, none⟩) (v := .func (.func 102) #[] #[]) (by simp) (by simp)
      have kB := hg0.cell c0 (by simp)
      have kC := hg0.cell c1 (by simp)
      have ha2 := ha.new hg0
      have hb2 := hb.new hg0
      clear c1
      clear c0
      clear hg
      go_wp2_with fail
      go_region_law (go_simp; go_at_call 102; refine (implRowTimes_any _ _ a b _ (by exact ha2) (by exact hb2)).mono ?_; rintro e w3 ⟨v3, rfl, ho, hg⟩; obtain ⟨A', n', c', rfl⟩ := ho.ri.val; have k0 := hg.cell (by exact kB) (by simp); have k1 := hg.cell (by exact kC) (by simp); have k2 := hg.cell (by exact kA) (by simp))
      all_goals
        go_wp2_with fail
        go_ret2
        exact ⟨_, rfl, ho.low hg0.size, gb_trans (gb_drew hg0) hg⟩
  · have Hr : Hid (kindRun k ll = none) := by
      refine kindRun_bad (.inr ?_)
      rw [← hn]
      rcases hk with rfl | rfl
      · show (2 : Int) ≠ _; omega
      · show (2 : Int) ≠ _; omega
    have hne : ((n : Int) == 2) = false := by simp; omega
    clear hn
    rcases hk with rfl | rfl
    all_goals
      go_enter Tryz.func61, Tryz.ntmps61
      go_wp2_with fail
      refine (workOf_any _ _).mono ?_
      simp only [work, if_true]
      rintro e w' ⟨rfl, rfl⟩
      go_wp2_with fail
      refine (pairNeeds_any _ _).mono ?_
      rintro e w2 ⟨rfl, hg⟩
      go_wp2_with fail
      go_ret2
      exact ⟨_, by rw [Hr.out]; rfl, by rw [Hr.out]; exact OwnI.nil _ _, gb_trans (World.grownBy_alloc w _ none) hg⟩
theorem implKindRun_any (k : Int) (v : Value) (ll : List (List Int)) (w : World) (h : RL w v ll) : Calls Tryz.prog 61 #[.int .i64 k, v] w (RowOut w (kindRun k ll)) := by
  rcases (show (k < 0 ∨ 5 < k ∨ k = 0) ∨ (k = 1 ∨ k = 2) ∨ (k = 3 ∨ k = 4 ∨ k = 5) by omega) with hk | hk | hk
  · exact implKindRun_out k v ll w h hk
  · exact implKindRun_pair k v ll w h hk
  · exact implKindRun_lone k v ll w h hk
end Go.Proofs.YthampfkicnakgaaGreatDoor
