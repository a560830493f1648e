/- Walks: spec.KindRun. -/
import Derived.Test.YthampfkicnakgaaGreatDoorS2Rows
import Derived.Test.YthampfkicnakgaaGreatDoorC1Spec
import Derived.Test.YthampfkicnakgaaGreatDoorA6Lists
namespace Go.Proofs.YthampfkicnakgaaGreatDoor
open Go.RowKit

theorem kindRun_bad {k : Int} {ll : List (List Int)} (h : k = 0 ∨ kindNeeds k ≠ (ll.length : Int)) : kindRun k ll = none := by
  match ll, h with
  | [], h => rfl
  | [a], h =>
    show (if k = 3 then rowSums a else if k = 4 then rowSort a else if k = 5 then rowTurn a else none) = none
    unfold kindNeeds at h
    simp only [List.length_cons, List.length_nil] at h
    repeat rw [if_neg (by intro e; subst e; simp at h)]
  | [a, b], h =>
    show (if k = 1 then rowAdd a b else if k = 2 then rowTimes a b else none) = none
    unfold kindNeeds at h
    simp only [List.length_cons, List.length_nil] at h
    repeat rw [if_neg (by intro e; subst e; simp at h)]
  | a :: b :: c :: d, h => rfl
theorem kindRun_cases {k : Int} {ll : List (List Int)} (h : ¬(k = 0 ∨ kindNeeds k ≠ (ll.length : Int))) :
    (∃ a b, ll = [a, b] ∧ (k = 1 ∨ k = 2)) ∨ (∃ a, ll = [a] ∧ (k = 3 ∨ k = 4 ∨ k = 5)) := by
  unfold kindNeeds at h
  match ll with
  | [] =>
    exfalso
    simp only [List.length_nil] at h
    split at h
    · simp at h
    · split at h
      · omega
      · split at h <;> simp at h
  | [a] =>
    refine .inr ⟨a, rfl, ?_⟩
    simp only [List.length_cons, List.length_nil] at h
    split at h
    · simp at h
    · split at h
      · omega
      · split at h
        · simp at h
        · omega
  | [a, b] =>
    refine .inl ⟨a, b, rfl, ?_⟩
    simp only [List.length_cons, List.length_nil] at h
    split at h
    · simp at h
    · split at h
      · omega
      · split at h
        · omega
        · simp at h
  | a :: b :: c :: d =>
    exfalso
    simp only [List.length_cons] at h
    split at h
    · omega
    · split at h
      · omega
      · split at h <;> omega
set_option maxHeartbeats 1600000 in
set_option maxRecDepth 20000 in
theorem specKindRun_any (k : Int) (v : Value) (ll : List (List Int)) (w : World) (h : RL w v ll) : Calls Tryz.prog 89 #[.int .i64 k, v] w (RowOut w (kindRun k ll)) := by
  obtain ⟨A, n, c, rfl, hc, hn, hn2⟩ := h.form'
  by_cases hbad : k = 0 ∨ kindNeeds k ≠ (ll.length : Int)
  · have Hr := Lib.hid (kindRun_bad hbad)
    rw [← hn] at hbad
    by_cases h0 : k = 0
    · subst h0
      clear hn hbad
      go_enter Tryz.func89, Tryz.ntmps89
      go_wp2_with fail
      go_ret2
      exact ⟨_, by rw [Hr.out]; rfl, by rw [Hr.out]; exact OwnI.empty w (Nat.le_refl _), World.grownBy_alloc w _ none⟩
    · have hne : kindNeeds k ≠ (n : Int) := hbad.resolve_left h0
      have hb1 : (kindNeeds k != (n : Int)) = true := by simpa using hne
      have hb2 : (k == 0) = false := by simpa using h0
      clear hn hbad
      go_enter Tryz.func89, Tryz.ntmps89
      go_wp2_with fail
      refine (specKindNeeds_any _ _).mono ?_
      rintro e w2 ⟨rfl, rfl⟩
      go_wp2_with fail
      go_ret2
      exact ⟨_, by rw [Hr.out]; rfl, by rw [Hr.out]; exact OwnI.empty w (Nat.le_refl _), World.grownBy_alloc w _ none⟩
  · rcases kindRun_cases hbad with ⟨a, b, rfl, hk⟩ | ⟨a, rfl, hk⟩
    · simp only [List.length_cons, List.length_nil, Nat.zero_add] at hn
      subst hn
      clear hbad
      obtain ⟨g, o, l, B, m, e, hA, hl, c0, ha, hm, hme, hmx⟩ := h.at_ (k := 0) (by omega)
      obtain ⟨g', o', l', B', m', e', hA', hl', c1, hb, hm', hme', hmx'⟩ := h.at_ (k := 1) (by omega)
      rw [hA] at hA'
      injection hA' with hA'
      injection hA' with e1 e2 e3
      subst hA e1 e2
      clear e3
      simp only [List.getElem?_cons_zero, List.getElem?_cons_succ, Option.some.injEq] at hl hl'
      subst hl hl'
      clear hm hm'
      have c0 : w.cell? ⟨g, o, none⟩ = some (.slice B m e) := c0
      rcases hk with rfl | rfl
      · have Hn : Hid (kindNeeds 1 = 2) := by show _ = _; decide
        go_enter Tryz.func89, Tryz.ntmps89
        go_wp2_with fail
        refine (specKindNeeds_any _ _).mono ?_
        rw [Hn.out]
        rintro e w2 ⟨rfl, rfl⟩
        go_wp2_with fail
        go_region_law (go_simp; go_at_call 110; refine (specRowAdd_any _ _ a b _ (by exact ha) (by exact hb)).mono ?_; rintro e w3 ⟨v3, rfl, ho, hg⟩; obtain ⟨A', n', c', rfl⟩ := ho.ri.val; have k0 := hg.cell (by exact c0) (by simp); have k1 := hg.cell (by exact c1) (by simp))
        all_goals
          go_wp2_with fail
          go_ret2
          exact ⟨_, rfl, ho, gb_trans (gb_drew (gb_refl _ _)) hg⟩
      · have Hn : Hid (kindNeeds 2 = 2) := by show _ = _; decide
        go_enter Tryz.func89, Tryz.ntmps89
        go_wp2_with fail
        refine (specKindNeeds_any _ _).mono ?_
        rw [Hn.out]
        rintro e w2 ⟨rfl, rfl⟩
        go_wp2_with fail
        go_region_law (go_simp; go_at_call 111; refine (specRowTimes_any _ _ a b _ (by exact ha) (by exact hb)).mono ?_; rintro e w3 ⟨v3, rfl, ho, hg⟩; obtain ⟨A', n', c', rfl⟩ := ho.ri.val; have k0 := hg.cell (by exact c0) (by simp); have k1 := hg.cell (by exact c1) (by simp))
        all_goals
          go_wp2_with fail
          go_ret2
          exact ⟨_, rfl, ho, gb_trans (gb_drew (gb_refl _ _)) hg⟩
    · simp only [List.length_cons, List.length_nil, Nat.zero_add] at hn
      subst hn
      clear hbad
      obtain ⟨g, o, l, B, m, e, rfl, hl, c0, ha, hm, hme, hmx⟩ := h.at_ (k := 0) (by omega)
      simp only [List.getElem?_cons_zero, Option.some.injEq] at hl
      subst hl
      clear hm
      have c0 : w.cell? ⟨g, o, none⟩ = some (.slice B m e) := c0
      rcases hk with rfl | rfl | rfl
      · have Hn : Hid (kindNeeds 3 = 1) := by show _ = _; decide
        go_enter Tryz.func89, Tryz.ntmps89
        go_wp2_with fail
        refine (specKindNeeds_any _ _).mono ?_
        rw [Hn.out]
        rintro e w2 ⟨rfl, rfl⟩
        go_wp2_with fail
        refine (specRowSums_any _ a _ ha).mono ?_
        rintro e w3 ⟨v3, rfl, ho, hg⟩
        obtain ⟨A', n', c', rfl⟩ := ho.ri.val
        go_wp2_with fail
        go_ret2
        exact ⟨_, rfl, ho, hg⟩
      · have Hn : Hid (kindNeeds 4 = 1) := by show _ = _; decide
        go_enter Tryz.func89, Tryz.ntmps89
        go_wp2_with fail
        refine (specKindNeeds_any _ _).mono ?_
        rw [Hn.out]
        rintro e w2 ⟨rfl, rfl⟩
        go_wp2_with fail
        refine (specRowSort_any _ a _ ha).mono ?_
        rintro e w3 ⟨v3, rfl, ho, hg⟩
        obtain ⟨A', n', c', rfl⟩ := ho.ri.val
        go_wp2_with fail
        go_ret2
        exact ⟨_, rfl, ho, hg⟩
      · have Hn : Hid (kindNeeds 5 = 1) := by show _ = _; decide
        go_enter Tryz.func89, Tryz.ntmps89
        go_wp2_with fail
        refine (specKindNeeds_any _ _).mono ?_
        rw [Hn.out]
        rintro e w2 ⟨rfl, rfl⟩
        go_wp2_with fail
        refine (specRowTurn_any _ a _ ha).mono ?_
        rintro e w3 ⟨v3, rfl, ho, hg⟩
        obtain ⟨A', n', c', rfl⟩ := ho.ri.val
        go_wp2_with fail
        go_ret2
        exact ⟨_, rfl, ho, hg⟩
end Go.Proofs.YthampfkicnakgaaGreatDoor
