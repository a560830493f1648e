/- The plain functions on counts of kinds, costs and levels. Conditions: none. -/
import Derived.Test.YthampfkicnakgaaGreatDoorA2Pure
namespace Go.Proofs.YthampfkicnakgaaGreatDoor
/-- How often each of the numbers 0 to 5 is there. -/
def tally (ks : List Int) : List Int := (List.range 6).map (fun j : Nat => ((ks.countP (fun k => k == (j : Int)) : Nat) : Int))
def countKinds (plan : List Node) : List Int := if planValid plan then tally (plan.map (fun x => x.kind)) else []
theorem tally_len (ks : List Int) : (tally ks).length = 6 := by simp [tally]
theorem tally_get (ks : List Int) {j : Nat} (h : j < 6) : (tally ks)[j]? = some ((ks.countP (fun k => k == (j : Int)) : Nat) : Int) := by
  unfold tally
  rw [List.getElem?_map, List.getElem?_range h]
  rfl
theorem tally_snoc (ks : List Int) {k : Nat} {x : Int} (hk : k < 6) (hx : (tally ks)[k]? = some x) : tally (ks ++ [(k : Int)]) = (tally ks).set k (x + 1) := by
  rw [tally_get ks hk] at hx
  injection hx with hx
  apply List.ext_getElem?
  intro i
  by_cases hi : i < 6
  · rw [tally_get _ hi, List.getElem?_set, tally_len]
    by_cases h : k = i
    · subst h
      rw [if_pos rfl, if_pos hk, List.countP_append, ← hx]
      simp
    · rw [if_neg h, tally_get _ hi, List.countP_append]
      simp only [Option.some.injEq, List.countP_cons, List.countP_nil]
      rw [if_neg (by simp; omega)]
      simp
  · rw [List.getElem?_eq_none (by rw [tally_len]; omega), List.getElem?_eq_none (by rw [List.length_set, tally_len]; omega)]
theorem tally_bound {ks : List Int} {j : Nat} {x : Int} (h : (tally ks)[j]? = some x) : 0 ≤ x ∧ x ≤ ks.length := by
  have hj : j < 6 := by rw [← tally_len ks]; exact (List.getElem?_eq_some_iff.1 h).1
  rw [tally_get ks hj] at h
  injection h with h
  have := List.countP_le_length (p := fun k => k == (j : Int)) (l := ks)
  omega
theorem tally_nil : tally [] = [0, 0, 0, 0, 0, 0] := rfl
theorem tally_cons (ks : List Int) (f : Int → Int) {k : Int} (h0 : 0 ≤ k) (h5 : k ≤ 5) :
    (tally (k :: ks)).getD 0 0 * f 0 + (tally (k :: ks)).getD 1 0 * f 1 + (tally (k :: ks)).getD 2 0 * f 2 + (tally (k :: ks)).getD 3 0 * f 3 + (tally (k :: ks)).getD 4 0 * f 4 + (tally (k :: ks)).getD 5 0 * f 5 =
    (tally ks).getD 0 0 * f 0 + (tally ks).getD 1 0 * f 1 + (tally ks).getD 2 0 * f 2 + (tally ks).getD 3 0 * f 3 + (tally ks).getD 4 0 * f 4 + (tally ks).getD 5 0 * f 5 + f k := by
  have g : ∀ (l : List Int) (j : Nat), j < 6 → (tally l).getD j 0 = ((l.countP (fun k => k == (j : Int)) : Nat) : Int) := by
    intro l j hj
    rw [List.getD_eq_getElem?_getD, tally_get l hj]
    rfl
  rw [g _ 0 (by omega), g _ 1 (by omega), g _ 2 (by omega), g _ 3 (by omega), g _ 4 (by omega), g _ 5 (by omega), g _ 0 (by omega), g _ 1 (by omega), g _ 2 (by omega), g _ 3 (by omega), g _ 4 (by omega), g _ 5 (by omega)]
  simp only [List.countP_cons]
  rcases (show k = 0 ∨ k = 1 ∨ k = 2 ∨ k = 3 ∨ k = 4 ∨ k = 5 by omega) with rfl | rfl | rfl | rfl | rfl | rfl
  all_goals
    simp [Int.add_mul]
    omega
/-- Each number's weight, as often as it is there. -/
theorem tally_weigh (f : Int → Int) (ks : List Int) (h : ∀ k ∈ ks, 0 ≤ k ∧ k ≤ 5) :
    (tally ks).getD 0 0 * f 0 + (tally ks).getD 1 0 * f 1 + (tally ks).getD 2 0 * f 2 + (tally ks).getD 3 0 * f 3 + (tally ks).getD 4 0 * f 4 + (tally ks).getD 5 0 * f 5 = (ks.map f).sum := by
  induction ks with
  | nil => rw [tally_nil]; simp
  | cons k ks ih =>
    have hk := h k (by simp)
    rw [tally_cons ks f hk.1 hk.2, ih (fun x hx => h x (by simp [hx]))]
    rw [List.map_cons, List.sum_cons]
    omega
/-! Costs. -/
def costKind (k : Int) : Int := if k < 0 ∨ 5 < k then -1 else if k = 0 ∨ k = 5 then 1 else if k = 4 then 4 else 2
def costAll (plan : List Node) : Int := if planValid plan then (plan.map (fun x => costKind x.kind)).sum else -1
theorem costKind_bound {k : Int} (h0 : 0 ≤ k) (h5 : k ≤ 5) : 1 ≤ costKind k ∧ costKind k ≤ 4 := by
  unfold costKind
  rw [if_neg (by omega)]
  repeat' split
  all_goals omega
theorem planValid_kind {plan : List Node} {i : Nat} {nd : Node} (hv : planValid plan = true) (h : plan[i]? = some nd) : 0 ≤ nd.kind ∧ nd.kind ≤ 5 := by
  have h1 := (planValid_node hv h).1
  unfold nodeFits kindValid at h1
  simp only [Bool.and_eq_true, decide_eq_true_eq] at h1
  exact h1.1.1.1
theorem planValid_first {plan : List Node} {nd : Node} (hv : planValid plan = true) (h : plan[0]? = some nd) : nd.kind = 0 := by
  have h1 := (planValid_node hv h).1
  unfold nodeFits kindValid at h1
  simp only [Bool.and_eq_true, decide_eq_true_eq, List.all_eq_true] at h1
  have h2 := h1.1.1.2
  have h3 := h1.1.2
  have h4 : nd.frm = [] := by
    cases hf : nd.frm with
    | nil => rfl
    | cons y ys =>
      have := h3 y (by rw [hf]; simp)
      omega
  rw [h4] at h2
  unfold kindNeeds at h2
  repeat' split at h2
  all_goals simp at h2
  all_goals omega
theorem planValid_kinds {plan : List Node} (hv : planValid plan = true) : ∀ k ∈ plan.map (fun x => x.kind), 0 ≤ k ∧ k ≤ 5 := by
  intro k hk
  obtain ⟨nd, hm, rfl⟩ := List.mem_map.1 hk
  obtain ⟨i, hi⟩ := List.mem_iff_getElem?.1 hm
  exact planValid_kind hv hi
theorem planValid_take {plan : List Node} (hv : planValid plan = true) (k : Nat) : ((plan.take k).map (fun x => costKind x.kind)).sum ≤ 4 * k ∧ 0 ≤ ((plan.take k).map (fun x => costKind x.kind)).sum := by
  induction k with
  | zero => simp
  | succ k ih =>
    cases h : plan[k]? with
    | none =>
      have : plan.length ≤ k := by simpa using h
      have e : plan.take (k + 1) = plan.take k := by rw [List.take_of_length_le (by omega), List.take_of_length_le this]
      rw [e]
      omega
    | some nd =>
      obtain ⟨hk, rfl⟩ := List.getElem?_eq_some_iff.1 h
      have := planValid_kind hv h
      have := costKind_bound this.1 this.2
      rw [List.take_succ_eq_append_getElem hk, List.map_append, List.sum_append, List.map_singleton, List.sum_singleton]
      omega
/-! Levels. -/
def levelNext (out : List Int) (frm : List Int) : Int := frm.foldl (fun n f => max n (out.getD f.toNat 0 + 1)) 0
def levelsTo (plan : List Node) (k : Nat) : List Int := (plan.take k).foldl (fun out x => out ++ [levelNext out x.frm]) []
def levels (plan : List Node) : List Int := levelsTo plan plan.length
theorem levelsTo_succ {plan : List Node} {k : Nat} {nd : Node} (h : plan[k]? = some nd) : levelsTo plan (k + 1) = levelsTo plan k ++ [levelNext (levelsTo plan k) nd.frm] := by
  obtain ⟨hk, rfl⟩ := List.getElem?_eq_some_iff.1 h
  unfold levelsTo
  rw [List.take_succ_eq_append_getElem hk, List.foldl_append]
  rfl
theorem levelsTo_len {plan : List Node} {k : Nat} (h : k ≤ plan.length) : (levelsTo plan k).length = k := by
  induction k with
  | zero => rfl
  | succ k ih =>
    obtain ⟨nd, hx⟩ : ∃ nd, plan[k]? = some nd := ⟨_, List.getElem?_eq_getElem (by omega)⟩
    rw [levelsTo_succ hx, List.length_append, ih (by omega)]
    rfl
theorem levels_len (plan : List Node) : (levels plan).length = plan.length := levelsTo_len (Nat.le_refl _)
theorem levelsTo_pre {plan : List Node} {k m : Nat} (hkm : k ≤ m) (hm : m ≤ plan.length) : (levelsTo plan m).take k = levelsTo plan k := by
  induction m with
  | zero =>
    obtain rfl : k = 0 := by omega
    rfl
  | succ m ih =>
    by_cases h : k = m + 1
    · subst h
      rw [List.take_of_length_le (by rw [levelsTo_len hm]; exact Nat.le_refl _)]
    · obtain ⟨nd, hx⟩ : ∃ nd, plan[m]? = some nd := ⟨_, List.getElem?_eq_getElem (by omega)⟩
      rw [levelsTo_succ hx, List.take_append_of_le_length (by rw [levelsTo_len (by omega)]; omega), ih (by omega) (by omega)]
/-- The level of a node by those of what it needs. -/
def lv (plan : List Node) (i : Nat) : Int := (levels plan).getD i 0
theorem levelsTo_lv {plan : List Node} {k i : Nat} (hk : k ≤ plan.length) (hi : i < k) : (levelsTo plan k).getD i 0 = lv plan i := by
  unfold lv levels
  rw [← levelsTo_pre hk (Nat.le_refl _), List.getD_eq_getElem?_getD, List.getElem?_take, if_pos hi, List.getD_eq_getElem?_getD]
theorem foldl_congr_mem {α β : Type} {f g : β → α → β} {l : List α} (h : ∀ b, ∀ a ∈ l, f b a = g b a) (b : β) : l.foldl f b = l.foldl g b := by
  induction l generalizing b with
  | nil => rfl
  | cons x xs ih => rw [List.foldl_cons, List.foldl_cons, h b x (by simp), ih (fun b a ha => h b a (by simp [ha]))]
theorem lv_eq {plan : List Node} {k : Nat} {nd : Node} (hv : planValid plan = true) (h : plan[k]? = some nd) : lv plan k = nd.frm.foldl (fun n f => max n (lv plan f.toNat + 1)) 0 := by
  have hk := (List.getElem?_eq_some_iff.1 h).1
  have hfit := (planValid_node hv h).1
  have e : lv plan k = levelNext (levelsTo plan k) nd.frm := by
    rw [← levelsTo_lv (k := k + 1) (by omega) (by omega), levelsTo_succ h, List.getD_eq_getElem?_getD, List.getElem?_append_right (by rw [levelsTo_len (by omega)]; omega), levelsTo_len (by omega), Nat.sub_self]
    rfl
  rw [e]
  unfold levelNext
  apply foldl_congr_mem
  intro b a ha
  have := nodeFits_mem hfit ha
  rw [levelsTo_lv (by omega) (by omega)]
theorem maxfold_ge (g : Int → Int) (l : List Int) (b : Int) : b ≤ l.foldl (fun n f => max n (g f)) b ∧ ∀ f ∈ l, g f ≤ l.foldl (fun n f => max n (g f)) b := by
  induction l generalizing b with
  | nil => simp
  | cons x xs ih =>
    rw [List.foldl_cons]
    obtain ⟨h1, h2⟩ := ih (max b (g x))
    refine ⟨by omega, fun f hf => ?_⟩
    rcases List.mem_cons.1 hf with rfl | hf
    · omega
    · exact h2 f hf
theorem maxfold_mem (g : Int → Int) (l : List Int) (b : Int) : l.foldl (fun n f => max n (g f)) b = b ∨ ∃ f ∈ l, l.foldl (fun n f => max n (g f)) b = g f := by
  induction l generalizing b with
  | nil => simp
  | cons x xs ih =>
    rw [List.foldl_cons]
    rcases ih (max b (g x)) with h | ⟨f, hf, h⟩
    · rcases Int.le_total b (g x) with hb | hb
      · right
        exact ⟨x, by simp, by rw [h]; omega⟩
      · left
        rw [h]
        omega
    · exact .inr ⟨f, by simp [hf], h⟩
theorem lv_nonneg {plan : List Node} (hv : planValid plan = true) (k : Nat) : 0 ≤ lv plan k := by
  cases h : plan[k]? with
  | none =>
    unfold lv
    rw [List.getD_eq_getElem?_getD, List.getElem?_eq_none (by rw [levels_len]; simpa using h)]
    simp
  | some nd =>
    rw [lv_eq hv h]
    exact (maxfold_ge _ _ _).1
theorem lv_need {plan : List Node} {k : Nat} {nd : Node} {f : Int} (hv : planValid plan = true) (h : plan[k]? = some nd) (hf : f ∈ nd.frm) : lv plan f.toNat + 1 ≤ lv plan k := by
  rw [lv_eq hv h]
  exact (maxfold_ge (fun f => lv plan f.toNat + 1) nd.frm 0).2 f hf
theorem lv_le {plan : List Node} (hv : planValid plan = true) (k : Nat) : lv plan k ≤ k := by
  induction k using Nat.strongRecOn with
  | ind k ih =>
    cases h : plan[k]? with
    | none =>
      unfold lv
      rw [List.getD_eq_getElem?_getD, List.getElem?_eq_none (by rw [levels_len]; simpa using h)]
      simp
    | some nd =>
      rw [lv_eq hv h]
      rcases maxfold_mem (fun f => lv plan f.toNat + 1) nd.frm 0 with e | ⟨f, hf, e⟩
      · rw [e]
        omega
      · rw [e]
        have := nodeFits_mem (planValid_node hv h).1 hf
        have := ih f.toNat (by omega)
        omega
/-- A node whose level is not 0 needs one of the level below. -/
theorem lv_pred {plan : List Node} {k : Nat} {nd : Node} (hv : planValid plan = true) (h : plan[k]? = some nd) (h0 : lv plan k ≠ 0) : ∃ f ∈ nd.frm, lv plan f.toNat + 1 = lv plan k := by
  rw [lv_eq hv h] at h0 ⊢
  rcases maxfold_mem (fun f => lv plan f.toNat + 1) nd.frm 0 with e | ⟨f, hf, e⟩
  · exact absurd e h0
  · exact ⟨f, hf, e.symm⟩
end Go.Proofs.YthampfkicnakgaaGreatDoor
