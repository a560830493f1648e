/- The plain functions on levels, the widest level, what is ready, and rounds. Conditions: none. · Plain facts on crews: counts behind what is done, what is ready, orders. Conditions: none. · The plain functions on rows and kinds. Conditions: none. -/
import Derived.Test.YtihobnheficpjaaGreatDoorM01
namespace Go.Proofs.YtihobnheficpjaaGreatDoor
def onLevel (plan : List Node) (k m : Nat) : List Nat := (List.range k).filter (fun i => decide (lv plan i = (m : Int)))
def levelRow (plan : List Node) (m : Nat) : List Int := (onLevel plan plan.length m).map (fun i : Nat => (i : Int))
def countTo (plan : List Node) (k : Nat) : Int := ((levels plan).take k).foldl (fun c l => max c (l + 1)) 0
def levelCount (plan : List Node) : Nat := (countTo plan plan.length).toNat
def levelsOf (plan : List Node) : List (List Int) := if planValid plan then (List.range (levelCount plan)).map (levelRow plan) else []
def wideTo (ll : List (List Int)) (k : Nat) : Int := (ll.take k).foldl (fun a r => max a (r.length : Int)) 0
def countWide (plan : List Node) : Int := if planValid plan then wideTo (levelsOf plan) (levelsOf plan).length else -1
theorem levels_get {plan : List Node} {i : Nat} (h : i < plan.length) : (levels plan)[i]? = some (lv plan i) := by
  unfold lv
  rw [List.getD_eq_getElem?_getD, List.getElem?_eq_getElem (by rw [levels_len]; exact h)]
  rfl
theorem countTo_succ {plan : List Node} {k : Nat} (h : k < plan.length) : countTo plan (k + 1) = max (countTo plan k) (lv plan k + 1) := by
  have hx := levels_get h
  obtain ⟨hk, hx⟩ := List.getElem?_eq_some_iff.1 hx
  unfold countTo
  rw [List.take_succ_eq_append_getElem hk, List.foldl_append, hx]
  rfl
theorem countTo_all {plan : List Node} (hv : planValid plan = true) {k : Nat} (h : k ≤ plan.length) : 0 ≤ countTo plan k ∧ countTo plan k ≤ k ∧ (∀ i, i < k → lv plan i < countTo plan k) ∧ (countTo plan k = 0 ∨ ∃ i, i < k ∧ lv plan i + 1 = countTo plan k) := by
  induction k with
  | zero => exact ⟨by simp [countTo], by simp [countTo], fun i hi => by omega, .inl (by simp [countTo])⟩
  | succ k ih =>
    obtain ⟨h1, h2, h3, h4⟩ := ih (by omega)
    have h5 := lv_nonneg hv k
    have h6 := lv_le hv k
    rw [countTo_succ (by omega)]
    refine ⟨by omega, by omega, fun i hi => ?_, ?_⟩
    · by_cases e : i = k
      · subst e; omega
      · have := h3 i (by omega)
        omega
    · rcases Int.le_total (countTo plan k) (lv plan k + 1) with h7 | h7
      · exact .inr ⟨k, by omega, by omega⟩
      · rcases h4 with h4 | ⟨i, hi, h4⟩
        · left; omega
        · exact .inr ⟨i, by omega, by omega⟩
theorem levelCount_eq {plan : List Node} (hv : planValid plan = true) : (levelCount plan : Int) = countTo plan plan.length := by
  have := (countTo_all hv (Nat.le_refl _)).1
  unfold levelCount
  omega
theorem levelCount_le {plan : List Node} (hv : planValid plan = true) : levelCount plan ≤ plan.length := by
  have := (countTo_all hv (Nat.le_refl _)).2.1
  have := levelCount_eq hv
  omega
theorem lv_lt {plan : List Node} (hv : planValid plan = true) {i : Nat} (h : i < plan.length) : lv plan i < levelCount plan := by
  have := (countTo_all hv (Nat.le_refl _)).2.2.1 i h
  have := levelCount_eq hv
  omega
theorem mem_onLevel {plan : List Node} {k m i : Nat} : i ∈ onLevel plan k m ↔ i < k ∧ lv plan i = m := by
  unfold onLevel
  simp
theorem mem_levelRow {plan : List Node} {m : Nat} {x : Int} : x ∈ levelRow plan m ↔ ∃ i, i < plan.length ∧ lv plan i = m ∧ x = (i : Nat) := by
  unfold levelRow
  rw [List.mem_map]
  constructor
  · rintro ⟨i, hi, rfl⟩
    have := mem_onLevel.1 hi
    exact ⟨i, this.1, this.2, rfl⟩
  · rintro ⟨i, h1, h2, rfl⟩
    exact ⟨i, mem_onLevel.2 ⟨h1, h2⟩, rfl⟩
theorem level_some {plan : List Node} (hv : planValid plan = true) : ∀ (j : Nat) (i : Nat), i < plan.length → ∀ m : Nat, (m : Int) + j = lv plan i → ∃ i', i' < plan.length ∧ lv plan i' = m
  | 0, i, hi, m, h => ⟨i, hi, by omega⟩
  | j + 1, i, hi, m, h => by
    obtain ⟨f, hf, e⟩ := lv_pred hv (List.getElem?_eq_getElem hi) (by omega)
    have := nodeFits_mem (planValid_node hv (List.getElem?_eq_getElem hi)).1 hf
    exact level_some hv j f.toNat (by omega) m (by omega)
theorem levelRow_ne {plan : List Node} (hv : planValid plan = true) {m : Nat} (h : m < levelCount plan) : levelRow plan m ≠ [] := by
  obtain ⟨h1, h2, h3, h4⟩ := countTo_all hv (Nat.le_refl plan.length)
  have h5 := levelCount_eq hv
  rcases h4 with h4 | ⟨i, hi, h4⟩
  · omega
  · obtain ⟨i', h6, h7⟩ := level_some hv (levelCount plan - 1 - m) i hi m (by omega)
    intro e
    have := mem_levelRow.2 ⟨i', h6, h7, rfl⟩
    rw [e] at this
    simp at this
theorem levelRow_nil {plan : List Node} (hv : planValid plan = true) {m : Nat} (h : levelCount plan ≤ m) : levelRow plan m = [] := by
  cases e : levelRow plan m with
  | nil => rfl
  | cons x xs =>
    obtain ⟨i, h1, h2, _⟩ := mem_levelRow.1 (show x ∈ levelRow plan m by rw [e]; simp)
    have := lv_lt hv h1
    omega
theorem levelRow_len {plan : List Node} (m : Nat) : (levelRow plan m).length ≤ plan.length := by
  have := List.length_filter_le (fun i => decide (lv plan i = (m : Int))) (List.range plan.length)
  unfold levelRow onLevel
  simpa using this
/-- What the reference's loop has behind m rounds. -/
def someRows (plan : List Node) (m : Nat) : List (List Int) := ((List.range m).map (levelRow plan)).filter (fun r => decide (0 < r.length))
theorem someRows_succ (plan : List Node) (m : Nat) : someRows plan (m + 1) = if 0 < (levelRow plan m).length then someRows plan m ++ [levelRow plan m] else someRows plan m := by
  unfold someRows
  rw [List.range_succ, List.map_append, List.filter_append, List.map_singleton]
  by_cases h : 0 < (levelRow plan m).length
  · rw [if_pos h, List.filter_cons_of_pos (by simpa using h), List.filter_nil]
  · rw [if_neg h, List.filter_cons_of_neg (by simpa using h), List.filter_nil, List.append_nil]
theorem someRows_eq {plan : List Node} (hv : planValid plan = true) (m : Nat) : someRows plan m = (List.range (min m (levelCount plan))).map (levelRow plan) := by
  induction m with
  | zero => simp [someRows]
  | succ m ih =>
    rw [someRows_succ, ih]
    by_cases h : m < levelCount plan
    · have h1 : 0 < (levelRow plan m).length := List.length_pos_iff.2 (levelRow_ne hv h)
      rw [if_pos h1, Nat.min_eq_left (by omega), Nat.min_eq_left (by omega), List.range_succ, List.map_append]
      rfl
    · rw [levelRow_nil hv (by omega), if_neg (by simp), Nat.min_eq_right (by omega), Nat.min_eq_right (by omega)]
theorem someRows_all {plan : List Node} (hv : planValid plan = true) : someRows plan plan.length = levelsOf plan := by
  rw [someRows_eq hv, Nat.min_eq_right (levelCount_le hv)]
  unfold levelsOf
  rw [if_pos hv]
theorem levelsOf_len {plan : List Node} (hv : planValid plan = true) : (levelsOf plan).length = levelCount plan := by
  unfold levelsOf
  rw [if_pos hv]
  simp
theorem levelsOf_get {plan : List Node} (hv : planValid plan = true) {m : Nat} (h : m < levelCount plan) : (levelsOf plan)[m]? = some (levelRow plan m) := by
  unfold levelsOf
  rw [if_pos hv, List.getElem?_map, List.getElem?_range h]
  rfl
/-! The widest level. -/
def IsWide (plan : List Node) (k : Nat) (v : Int) : Prop := (∀ m, ((onLevel plan k m).length : Int) ≤ v) ∧ (v = 0 ∨ ∃ m, v = ((onLevel plan k m).length : Int))
theorem IsWide.unique {plan : List Node} {k : Nat} {u v : Int} (h : IsWide plan k u) (h' : IsWide plan k v) : u = v := by
  obtain ⟨h1, h2⟩ := h
  obtain ⟨k1, k2⟩ := h'
  have a := h1 0
  have b := k1 0
  rcases h2 with h2 | ⟨m, h2⟩
  · rcases k2 with k2 | ⟨j, k2⟩
    · omega
    · have := h1 j
      omega
  · have := k1 m
    rcases k2 with k2 | ⟨j, k2⟩
    · omega
    · have := h1 j
      omega
theorem wideTo_succ {ll : List (List Int)} {k : Nat} {r : List Int} (h : ll[k]? = some r) : wideTo ll (k + 1) = max (wideTo ll k) (r.length : Int) := by
  obtain ⟨hk, rfl⟩ := List.getElem?_eq_some_iff.1 h
  unfold wideTo
  rw [List.take_succ_eq_append_getElem hk, List.foldl_append]
  rfl
theorem wideTo_all (ll : List (List Int)) {k : Nat} (h : k ≤ ll.length) : 0 ≤ wideTo ll k ∧ (∀ (i : Nat) (r : List Int), i < k → ll[i]? = some r → (r.length : Int) ≤ wideTo ll k) ∧ (wideTo ll k = 0 ∨ ∃ (i : Nat) (r : List Int), i < k ∧ ll[i]? = some r ∧ wideTo ll k = r.length) := by
  induction k with
  | zero => exact ⟨by simp [wideTo], fun i r hi => by omega, .inl (by simp [wideTo])⟩
  | succ k ih =>
    obtain ⟨h1, h2, h3⟩ := ih (by omega)
    obtain ⟨r, hr⟩ : ∃ r, ll[k]? = some r := ⟨_, List.getElem?_eq_getElem (by omega)⟩
    rw [wideTo_succ hr]
    refine ⟨by omega, fun i r' hi hr' => ?_, ?_⟩
    · by_cases e : i = k
      · subst e
        rw [hr] at hr'
        cases hr'
        omega
      · have := h2 i r' (by omega) hr'
        omega
    · rcases Int.le_total (wideTo ll k) (r.length : Int) with h4 | h4
      · exact .inr ⟨k, r, by omega, hr, by omega⟩
      · rcases h3 with h3 | ⟨i, r', hi, hr', h3⟩
        · left; omega
        · exact .inr ⟨i, r', by omega, hr', by omega⟩
theorem levelRow_onLevel (plan : List Node) (m : Nat) : (levelRow plan m).length = (onLevel plan plan.length m).length := by simp [levelRow]
theorem countWide_is {plan : List Node} (hv : planValid plan = true) : IsWide plan plan.length (countWide plan) := by
  unfold countWide
  rw [if_pos hv]
  obtain ⟨h1, h2, h3⟩ := wideTo_all (levelsOf plan) (Nat.le_refl _)
  refine ⟨fun m => ?_, ?_⟩
  · rw [← levelRow_onLevel]
    by_cases hm : m < levelCount plan
    · exact h2 m _ (by rw [levelsOf_len hv]; exact hm) (levelsOf_get hv hm)
    · rw [levelRow_nil hv (by omega)]
      exact h1
  · rcases h3 with h3 | ⟨i, r, hi, hr, h3⟩
    · exact .inl h3
    · rw [levelsOf_len hv] at hi
      rw [levelsOf_get hv hi] at hr
      cases hr
      exact .inr ⟨i, by rw [h3, levelRow_onLevel]⟩
theorem onLevel_succ (plan : List Node) (k m : Nat) : onLevel plan (k + 1) m = if lv plan k = m then onLevel plan k m ++ [k] else onLevel plan k m := by
  unfold onLevel
  rw [List.range_succ, List.filter_append]
  by_cases h : lv plan k = m
  · rw [if_pos h, List.filter_cons_of_pos (by simpa using h), List.filter_nil]
  · rw [if_neg h, List.filter_cons_of_neg (by simpa using h), List.filter_nil, List.append_nil]
/-- How many of the first k nodes each of the first n levels has. -/
def widths (plan : List Node) (n k : Nat) : List Int := (List.range n).map (fun m => ((onLevel plan k m).length : Int))
theorem widths_len (plan : List Node) (n k : Nat) : (widths plan n k).length = n := by simp [widths]
theorem widths_get {plan : List Node} {n k m : Nat} (h : m < n) : (widths plan n k)[m]? = some ((onLevel plan k m).length : Int) := by
  unfold widths
  rw [List.getElem?_map, List.getElem?_range h]
  rfl
theorem widths_succ {plan : List Node} {n k m : Nat} (hm : lv plan k = (m : Int)) (hn : m < n) : widths plan n (k + 1) = (widths plan n k).set m (((onLevel plan k m).length : Int) + 1) := by
  apply List.ext_getElem?
  intro i
  by_cases hi : i < n
  · rw [widths_get hi, List.getElem?_set, widths_len, onLevel_succ]
    by_cases e : m = i
    · subst e
      rw [if_pos hm, if_pos rfl, if_pos hn, List.length_append, List.length_singleton]
      congr 1
    · rw [if_neg (by omega), if_neg e, widths_get hi]
  · rw [List.getElem?_eq_none (by rw [widths_len]; omega), List.getElem?_eq_none (by rw [List.length_set, widths_len]; omega)]
theorem widths_zero (plan : List Node) (n : Nat) : widths plan n 0 = List.replicate n 0 := by
  apply List.ext_getElem?
  intro i
  by_cases hi : i < n
  · rw [widths_get hi, List.getElem?_replicate, if_pos hi]
    rfl
  · rw [List.getElem?_eq_none (by rw [widths_len]; omega), List.getElem?_eq_none (by simp; omega)]
theorem onLevel_len (plan : List Node) (k m : Nat) : (onLevel plan k m).length ≤ k := by
  have := List.length_filter_le (fun i => decide (lv plan i = (m : Int))) (List.range k)
  unfold onLevel
  simpa using this
theorem IsWide.step {plan : List Node} {k m : Nat} {v : Int} (h : IsWide plan k v) (hm : lv plan k = (m : Int)) : IsWide plan (k + 1) (max v (((onLevel plan k m).length : Int) + 1)) := by
  obtain ⟨h1, h2⟩ := h
  refine ⟨fun j => ?_, ?_⟩
  · rw [onLevel_succ]
    split
    · rename_i hj
      obtain rfl : m = j := by omega
      rw [List.length_append, List.length_singleton]
      omega
    · have := h1 j
      omega
  · rcases Int.le_total v (((onLevel plan k m).length : Int) + 1) with h3 | h3
    · refine .inr ⟨m, ?_⟩
      rw [onLevel_succ, if_pos hm, List.length_append, List.length_singleton]
      omega
    · rcases h2 with h2 | ⟨j, h2⟩
      · omega
      · by_cases e : lv plan k = j
        · obtain rfl : m = j := by omega
          omega
        · refine .inr ⟨j, ?_⟩
          rw [onLevel_succ, if_neg e]
          omega
theorem IsWide.zero (plan : List Node) : IsWide plan 0 0 := ⟨fun m => by simp [onLevel], .inl rfl⟩
theorem widths_sum {plan : List Node} (hv : planValid plan = true) {k : Nat} (h : k ≤ plan.length) : (widths plan (levelCount plan) k).sum = k := by
  have key : ∀ (l : List Int) (i : Nat) (x : Int), l[i]? = some x → (l.set i (x + 1)).sum = l.sum + 1 := by
    intro l
    induction l with
    | nil => intro i x h; simp at h
    | cons y ys ih =>
      intro i x h
      match i with
      | 0 =>
        simp at h
        subst h
        simp
        omega
      | i + 1 =>
        simp at h
        rw [List.set_cons_succ, List.sum_cons, List.sum_cons, ih i x h]
        omega
  induction k with
  | zero =>
    rw [widths_zero]
    simp
  | succ k ih =>
    have h0 := lv_nonneg hv k
    have h1 := lv_lt hv (i := k) (by omega)
    obtain ⟨m, hm⟩ := Int.eq_ofNat_of_zero_le h0
    rw [widths_succ hm (by omega), key _ _ _ (widths_get (by omega)), ih (by omega)]
    omega
theorem sum_le_mul {l : List Int} {b : Int} (h : ∀ x ∈ l, x ≤ b) : l.sum ≤ l.length * b := by
  induction l with
  | nil => simp
  | cons x xs ih =>
    have h1 := ih (fun y hy => h y (by simp [hy]))
    have h2 := h x (by simp)
    rw [List.sum_cons, List.length_cons]
    have : ((xs.length + 1 : Nat) : Int) * b = xs.length * b + b := by rw [Int.natCast_add, Int.add_mul]; simp
    omega
theorem wide_levels {plan : List Node} (hv : planValid plan = true) : (plan.length : Int) ≤ countWide plan * levelCount plan ∧ countWide plan ≤ plan.length ∧ 0 ≤ countWide plan := by
  obtain ⟨h1, h2⟩ := countWide_is hv
  have h3 := widths_sum hv (Nat.le_refl plan.length)
  have h4 := sum_le_mul (l := widths plan (levelCount plan) plan.length) (b := countWide plan) (fun x hx => by
    unfold widths at hx
    obtain ⟨m, _, rfl⟩ := List.mem_map.1 hx
    exact h1 m)
  rw [h3, widths_len, Int.mul_comm] at h4
  refine ⟨h4, ?_, ?_⟩
  · rcases h2 with h2 | ⟨m, h2⟩
    · omega
    · have := onLevel_len plan plan.length m
      omega
  · have := h1 0
    omega
/-! What is ready; rounds. -/
def readyNode (done : List Int) (x : Node × Nat) : Bool := !decide ((x.2 : Int) ∈ done) && x.1.frm.all (fun f => decide (f ∈ done))
def readyTo (plan : List Node) (done : List Int) (k : Nat) : List Int := ((plan.zipIdx.take k).filter (readyNode done)).map (fun x : Node × Nat => (x.2 : Int))
def readyOf (plan : List Node) (done : List Int) : List Int := if planValid plan then readyTo plan done plan.length else []
theorem readyTo_succ {plan : List Node} {k : Nat} {nd : Node} (done : List Int) (h : plan[k]? = some nd) : readyTo plan done (k + 1) = if readyNode done (nd, k) then readyTo plan done k ++ [(k : Int)] else readyTo plan done k := by
  have hz : plan.zipIdx[k]? = some (nd, k) := by simp [h]
  obtain ⟨hk, hx⟩ := List.getElem?_eq_some_iff.1 hz
  unfold readyTo
  rw [List.take_succ_eq_append_getElem hk, List.filter_append, List.map_append, hx]
  by_cases hr : readyNode done (nd, k) = true
  · rw [if_pos hr, List.filter_cons_of_pos hr]
    rfl
  · rw [if_neg hr, List.filter_cons_of_neg hr, List.filter_nil, List.map_nil, List.append_nil]
theorem readyTo_len (plan : List Node) (done : List Int) (k : Nat) : (readyTo plan done k).length ≤ k := by
  unfold readyTo
  rw [List.length_map]
  have := List.length_filter_le (readyNode done) (plan.zipIdx.take k)
  rw [List.length_take] at this
  omega
def doneTo (plan : List Node) (r : Nat) : List Int := ((List.range r).map (levelRow plan)).flatten
theorem mem_doneTo {plan : List Node} (hv : planValid plan = true) {r : Nat} {x : Int} : x ∈ doneTo plan r ↔ ∃ i, i < plan.length ∧ lv plan i < r ∧ x = (i : Nat) := by
  unfold doneTo
  rw [List.mem_flatten]
  constructor
  · rintro ⟨l, hl, hx⟩
    obtain ⟨m, hm, rfl⟩ := List.mem_map.1 hl
    obtain ⟨i, h1, h2, h3⟩ := mem_levelRow.1 hx
    have := List.mem_range.1 hm
    exact ⟨i, h1, by omega, h3⟩
  · rintro ⟨i, h1, h2, h3⟩
    obtain ⟨m, hm⟩ := Int.eq_ofNat_of_zero_le (lv_nonneg hv i)
    exact ⟨levelRow plan m, List.mem_map.2 ⟨m, List.mem_range.2 (by omega), rfl⟩, mem_levelRow.2 ⟨i, h1, hm, h3⟩⟩
theorem doneTo_succ (plan : List Node) (r : Nat) : doneTo plan (r + 1) = doneTo plan r ++ levelRow plan r := by
  unfold doneTo
  rw [List.range_succ, List.map_append, List.flatten_append]
  simp
theorem doneTo_len (plan : List Node) (r : Nat) : ((doneTo plan r).length : Int) = (widths plan r plan.length).sum := by
  induction r with
  | zero => rfl
  | succ r ih =>
    rw [doneTo_succ, List.length_append, Int.natCast_add, ih, levelRow_onLevel]
    unfold widths
    rw [List.range_succ, List.map_append, List.sum_append]
    simp
theorem ready_level {plan : List Node} (hv : planValid plan = true) (r : Nat) : readyOf plan (doneTo plan r) = levelRow plan r := by
  unfold readyOf
  rw [if_pos hv]
  have key : ∀ k, k ≤ plan.length → readyTo plan (doneTo plan r) k = (onLevel plan k r).map (fun i : Nat => (i : Int)) := by
    intro k
    induction k with
    | zero => intro _; rfl
    | succ k ih =>
      intro hk
      obtain ⟨nd, hx⟩ : ∃ nd, plan[k]? = some nd := ⟨_, List.getElem?_eq_getElem (by omega)⟩
      rw [readyTo_succ _ hx, onLevel_succ, ih (by omega)]
      have e : readyNode (doneTo plan r) (nd, k) = true ↔ lv plan k = r := by
        unfold readyNode
        simp only [Bool.and_eq_true, Bool.not_eq_true', decide_eq_false_iff_not, List.all_eq_true, decide_eq_true_eq]
        constructor
        · rintro ⟨h1, h2⟩
          have h3 : ¬ lv plan k < r := fun h => h1 ((mem_doneTo hv).2 ⟨k, by omega, h, rfl⟩)
          by_cases h0 : lv plan k = 0
          · omega
          · obtain ⟨f, hf, e⟩ := lv_pred hv hx h0
            have h4 := nodeFits_mem (planValid_node hv hx).1 hf
            obtain ⟨i, _, h5, h6⟩ := (mem_doneTo hv).1 (h2 f hf)
            have : f.toNat = i := by omega
            rw [this] at e
            omega
        · intro h
          refine ⟨fun hm => ?_, fun f hf => ?_⟩
          · obtain ⟨i, _, h5, h6⟩ := (mem_doneTo hv).1 hm
            have : k = i := by omega
            subst this
            omega
          · have h4 := nodeFits_mem (planValid_node hv hx).1 hf
            have h5 := lv_need hv hx hf
            exact (mem_doneTo hv).2 ⟨f.toNat, by omega, by omega, by omega⟩
      by_cases h : lv plan k = r
      · rw [if_pos (e.2 h), if_pos h, List.map_append]
        rfl
      · rw [if_neg (fun h2 => h (e.1 h2)), if_neg h]
  exact key _ (Nat.le_refl _)
theorem doneTo_all {plan : List Node} (hv : planValid plan = true) : (doneTo plan (levelCount plan)).length = plan.length := by
  have h1 := doneTo_len plan (levelCount plan)
  rw [widths_sum hv (Nat.le_refl _)] at h1
  omega
theorem doneTo_mono (plan : List Node) {r s : Nat} (h : r ≤ s) : (doneTo plan r).length ≤ (doneTo plan s).length := by
  induction s with
  | zero =>
    obtain rfl : r = 0 := by omega
    exact Nat.le_refl _
  | succ s ih =>
    by_cases e : r = s + 1
    · subst e; exact Nat.le_refl _
    · rw [doneTo_succ, List.length_append]
      have := ih (by omega)
      omega
theorem doneTo_lt {plan : List Node} (hv : planValid plan = true) {r : Nat} (h : r < levelCount plan) : (doneTo plan r).length < plan.length := by
  have h1 := doneTo_mono plan (show r + 1 ≤ levelCount plan by omega)
  rw [doneTo_all hv, doneTo_succ, List.length_append] at h1
  have h2 : 0 < (levelRow plan r).length := List.length_pos_iff.2 (levelRow_ne hv h)
  omega
/-! The same over any list of nodes. -/
def onL (plan : List Node) (l : List Nat) (m : Nat) : List Nat := l.filter (fun i => decide (lv plan i = (m : Int)))
def widthsL (plan : List Node) (n : Nat) (l : List Nat) : List Int := (List.range n).map (fun m => ((onL plan l m).length : Int))
def IsWideL (plan : List Node) (l : List Nat) (v : Int) : Prop := (∀ m, ((onL plan l m).length : Int) ≤ v) ∧ (v = 0 ∨ ∃ m, v = ((onL plan l m).length : Int))
theorem onL_snoc (plan : List Node) (l : List Nat) (k m : Nat) : onL plan (l ++ [k]) m = if lv plan k = m then onL plan l m ++ [k] else onL plan l m := by
  unfold onL
  rw [List.filter_append]
  by_cases h : lv plan k = m
  · rw [if_pos h, List.filter_cons_of_pos (by simpa using h), List.filter_nil]
  · rw [if_neg h, List.filter_cons_of_neg (by simpa using h), List.filter_nil, List.append_nil]
theorem onL_len (plan : List Node) (l : List Nat) (m : Nat) : (onL plan l m).length ≤ l.length := List.length_filter_le _ _
theorem widthsL_len (plan : List Node) (n : Nat) (l : List Nat) : (widthsL plan n l).length = n := by simp [widthsL]
theorem widthsL_get {plan : List Node} {n m : Nat} {l : List Nat} (h : m < n) : (widthsL plan n l)[m]? = some ((onL plan l m).length : Int) := by
  unfold widthsL
  rw [List.getElem?_map, List.getElem?_range h]
  rfl
theorem widthsL_snoc {plan : List Node} {n k m : Nat} {l : List Nat} (hm : lv plan k = (m : Int)) (hn : m < n) : widthsL plan n (l ++ [k]) = (widthsL plan n l).set m (((onL plan l m).length : Int) + 1) := by
  apply List.ext_getElem?
  intro i
  by_cases hi : i < n
  · rw [widthsL_get hi, List.getElem?_set, widthsL_len, onL_snoc]
    by_cases e : m = i
    · subst e
      rw [if_pos hm, if_pos rfl, if_pos hn, List.length_append, List.length_singleton]
      congr 1
    · rw [if_neg (by omega), if_neg e, widthsL_get hi]
  · rw [List.getElem?_eq_none (by rw [widthsL_len]; omega), List.getElem?_eq_none (by rw [List.length_set, widthsL_len]; omega)]
theorem widthsL_nil (plan : List Node) (n : Nat) : widthsL plan n [] = List.replicate n 0 := by
  apply List.ext_getElem?
  intro i
  by_cases hi : i < n
  · rw [widthsL_get hi, List.getElem?_replicate, if_pos hi]
    rfl
  · rw [List.getElem?_eq_none (by rw [widthsL_len]; omega), List.getElem?_eq_none (by simp; omega)]
theorem IsWideL.step {plan : List Node} {l : List Nat} {k m : Nat} {v : Int} (h : IsWideL plan l v) (hm : lv plan k = (m : Int)) : IsWideL plan (l ++ [k]) (max v (((onL plan l m).length : Int) + 1)) := by
  obtain ⟨h1, h2⟩ := h
  refine ⟨fun j => ?_, ?_⟩
  · rw [onL_snoc]
    split
    · rename_i hj
      obtain rfl : m = j := by omega
      rw [List.length_append, List.length_singleton]
      omega
    · have := h1 j
      omega
  · rcases Int.le_total v (((onL plan l m).length : Int) + 1) with h3 | h3
    · refine .inr ⟨m, ?_⟩
      rw [onL_snoc, if_pos hm, List.length_append, List.length_singleton]
      omega
    · rcases h2 with h2 | ⟨j, h2⟩
      · omega
      · by_cases e : lv plan k = j
        · obtain rfl : m = j := by omega
          omega
        · refine .inr ⟨j, ?_⟩
          rw [onL_snoc, if_neg e]
          omega
theorem IsWideL.nil (plan : List Node) : IsWideL plan [] 0 := ⟨fun m => by simp [onL], .inl rfl⟩
theorem IsWideL.all {plan : List Node} (hv : planValid plan = true) {v : Int} (h : IsWideL plan (List.range plan.length) v) : v = countWide plan := by
  have h1 : IsWide plan plan.length v := h
  exact h1.unique (countWide_is hv)
end Go.Proofs.YtihobnheficpjaaGreatDoor
namespace Go.Proofs.YtihobnheficpjaaGreatDoor
structure Crew where
  deques : List (List Int)
  counts : List Int
  done : List Int
  rows : List (List Int)
/-- What a node names. -/
def frmAt (plan : List Node) (i : Nat) : List Int := match plan[i]? with
  | some nd => nd.frm
  | none => []
def has (plan : List Node) (i : Nat) (x : Int) : Bool := decide (x ∈ frmAt plan i)
theorem frmAt_get {plan : List Node} {i : Nat} {nd : Node} (h : plan[i]? = some nd) : frmAt plan i = nd.frm := by unfold frmAt; rw [h]
theorem frmAt_out {plan : List Node} {i : Nat} (h : plan.length ≤ i) : frmAt plan i = [] := by unfold frmAt; rw [List.getElem?_eq_none h]
theorem frmAt_mem {plan : List Node} (hv : planValid plan = true) {i : Nat} {x : Int} (h : x ∈ frmAt plan i) : 0 ≤ x ∧ x < i ∧ i < plan.length := by
  by_cases hi : i < plan.length
  · have hx : plan[i]? = some plan[i] := List.getElem?_eq_getElem hi
    rw [frmAt_get hx] at h
    have := nodeFits_mem (planValid_node hv hx).1 h
    exact ⟨this.1, this.2, hi⟩
  · rw [frmAt_out (by omega)] at h
    cases h
theorem needsOf_frm (plan : List Node) (i : Nat) : needsOf plan i = dedup (frmAt plan i) := by
  unfold needsOf frmAt
  cases plan[i]? with
  | some nd => rfl
  | none => rfl
theorem mem_needs {plan : List Node} (hv : planValid plan = true) {i f : Nat} : f ∈ needsOf plan i ↔ (f : Int) ∈ frmAt plan i := by
  rw [needsOf_frm, mem_dedup]
  constructor
  · rintro ⟨y, hy, e⟩
    have := frmAt_mem hv hy
    have e2 : y = (f : Int) := by omega
    rw [← e2]
    exact hy
  · intro h
    exact ⟨f, h, by simp⟩
/-- How many different nodes that node i needs are not done. -/
def left (plan : List Node) (D : List Int) (i : Nat) : Nat := (needsOf plan i).countP (fun f : Nat => !decide ((f : Int) ∈ D))
theorem left_nil (plan : List Node) (i : Nat) : left plan [] i = (needsOf plan i).length := by
  unfold left
  rw [List.countP_eq_length]
  simp
theorem left_le (plan : List Node) (D : List Int) (i : Nat) : left plan D i ≤ (needsOf plan i).length := List.countP_le_length
/-- One more node done: a node that needs it needs one less. -/
theorem countP_one {l : List Nat} (hn : l.Nodup) (p : Nat → Bool) {x : Nat} (hp : p x = true) : l.countP (fun f => p f && !decide (f = x)) + (if x ∈ l then 1 else 0) = l.countP p := by
  induction l with
  | nil => simp
  | cons a r ih =>
    obtain ⟨h1, h2⟩ := List.nodup_cons.1 hn
    have := ih h2
    by_cases hax : a = x
    · subst hax
      have hc : r.countP (fun f => p f && !decide (f = a)) = r.countP p := by
        rw [if_neg h1] at this
        simpa using this
      rw [List.countP_cons_of_neg (by simp), List.countP_cons_of_pos hp, hc, if_pos (by simp)]
    · have hm : (x ∈ a :: r) ↔ x ∈ r := ⟨fun h => by rcases List.mem_cons.1 h with e | h; exact absurd e.symm hax; exact h, List.mem_cons_of_mem _⟩
      by_cases hpa : p a = true
      · rw [List.countP_cons_of_pos (by simp [hpa, hax]), List.countP_cons_of_pos hpa]
        simp only [hm]
        omega
      · rw [List.countP_cons_of_neg (by simp [hpa]), List.countP_cons_of_neg hpa]
        simp only [hm]
        omega
theorem left_snoc {plan : List Node} (hv : planValid plan = true) {D : List Int} {x : Int} (hx : x ∉ D) (h0 : 0 ≤ x) (i : Nat) : left plan (D ++ [x]) i + (if has plan i x then 1 else 0) = left plan D i := by
  obtain ⟨m, rfl⟩ := Int.eq_ofNat_of_zero_le h0
  have e := countP_one (needsOf_nodup plan i) (fun f : Nat => !decide ((f : Int) ∈ D)) (x := m) (by simpa using hx)
  unfold left
  rw [← e]
  have e1 : (fun f : Nat => !decide ((f : Int) ∈ D ++ [(m : Int)])) = (fun f : Nat => !decide ((f : Int) ∈ D) && !decide (f = m)) := by
    funext f
    by_cases h1 : (f : Int) ∈ D
    · simp [h1]
    · by_cases h2 : f = m
      · simp [h2]
      · have : ¬ (f : Int) = (m : Int) := by omega
        simp [h1, h2, this]
  rw [e1]
  have e2 : (has plan i (m : Int) = true) ↔ m ∈ needsOf plan i := by
    unfold has
    rw [decide_eq_true_eq]
    exact (mem_needs hv).symm
  by_cases hm : m ∈ needsOf plan i
  · rw [if_pos hm, if_pos (e2.2 hm)]
  · rw [if_neg hm, if_neg (fun h => hm (e2.1 h))]
theorem left_zero {plan : List Node} (hv : planValid plan = true) {D : List Int} {i : Nat} : left plan D i = 0 ↔ ∀ f ∈ frmAt plan i, f ∈ D := by
  unfold left
  rw [List.countP_eq_zero]
  constructor
  · intro h f hf
    have := frmAt_mem hv hf
    obtain ⟨m, rfl⟩ := Int.eq_ofNat_of_zero_le this.1
    have := h m ((mem_needs hv).2 hf)
    simpa using this
  · intro h f hf
    have := h _ ((mem_needs hv).1 hf)
    simpa using this
/-! Orders. -/
def stepOk (plan : List Node) (D : List Int) (x : Int) : Bool := decide (0 ≤ x) && decide (x < plan.length) && !decide (x ∈ D) && (frmAt plan x.toNat).all (fun f => decide (f ∈ D))
def orderTo (plan : List Node) (order : List Int) (k : Nat) : Bool := (List.range k).all fun i => stepOk plan (order.take i) (order.getD i 0)
def orderOk (plan : List Node) (order : List Int) : Bool := orderTo plan order order.length
theorem orderTo_succ (plan : List Node) (order : List Int) (k : Nat) : orderTo plan order (k + 1) = (orderTo plan order k && stepOk plan (order.take k) (order.getD k 0)) := by
  unfold orderTo
  rw [List.range_succ, List.all_append]
  simp
theorem orderTo_le {plan : List Node} {order : List Int} {k m : Nat} (h : k ≤ m) (ho : orderTo plan order m = true) : orderTo plan order k = true := by
  induction m with
  | zero =>
    obtain rfl : k = 0 := by omega
    exact ho
  | succ m ih =>
    by_cases hk : k = m + 1
    · subst hk; exact ho
    · rw [orderTo_succ, Bool.and_eq_true] at ho
      exact ih (by omega) ho.1
theorem orderOk_snoc (plan : List Node) (D : List Int) (x : Int) : orderOk plan (D ++ [x]) = (orderOk plan D && stepOk plan D x) := by
  have h1 : orderTo plan (D ++ [x]) D.length = orderTo plan D D.length := by
    unfold orderTo
    rw [Bool.eq_iff_iff, List.all_eq_true, List.all_eq_true]
    have e : ∀ i, i ∈ List.range D.length → ((D ++ [x]).take i = D.take i ∧ (D ++ [x]).getD i 0 = D.getD i 0) := by
      intro i hi
      have hi := List.mem_range.1 hi
      exact ⟨List.take_append_of_le_length (by omega), by simp only [List.getD_eq_getElem?_getD]; rw [List.getElem?_append_left hi]⟩
    constructor
    · intro h i hi
      have := h i hi
      rwa [(e i hi).1, (e i hi).2] at this
    · intro h i hi
      rw [(e i hi).1, (e i hi).2]
      exact h i hi
  unfold orderOk
  rw [List.length_append]
  show orderTo plan (D ++ [x]) (D.length + 1) = _
  rw [orderTo_succ, h1, List.take_left, List.getD_eq_getElem?_getD, List.getElem?_append_right (Nat.le_refl _), Nat.sub_self]
  rfl
theorem orderTo_take {plan : List Node} {order : List Int} {k : Nat} (hk : k ≤ order.length) : orderOk plan (order.take k) = orderTo plan order k := by
  induction k with
  | zero => rfl
  | succ k ih =>
    rw [List.take_succ_eq_append_getElem (by omega), orderOk_snoc, ih (by omega), orderTo_succ, List.getD_eq_getElem?_getD, List.getElem?_eq_getElem (by omega)]
    rfl
theorem stepOk_iff {plan : List Node} {D : List Int} {x : Int} : stepOk plan D x = true ↔ 0 ≤ x ∧ x < plan.length ∧ x ∉ D ∧ ∀ f ∈ frmAt plan x.toNat, f ∈ D := by
  unfold stepOk
  simp only [Bool.and_eq_true, decide_eq_true_eq, Bool.not_eq_true', decide_eq_false_iff_not, List.all_eq_true, and_assoc]
theorem order_step {plan : List Node} {D : List Int} (ho : orderOk plan D = true) {i : Nat} (hi : i < D.length) : stepOk plan (D.take i) D[i] = true := by
  have h1 : orderTo plan D (i + 1) = true := orderTo_le hi ho
  rw [orderTo_succ, Bool.and_eq_true, List.getD_eq_getElem?_getD, List.getElem?_eq_getElem hi] at h1
  exact h1.2
/-- What is done needs only what is done. -/
theorem order_closed {plan : List Node} {D : List Int} (ho : orderOk plan D = true) {y : Int} (hy : y ∈ D) : 0 ≤ y ∧ y < plan.length ∧ ∀ f ∈ frmAt plan y.toNat, f ∈ D := by
  obtain ⟨i, hi, rfl⟩ := List.mem_iff_getElem.1 hy
  obtain ⟨h1, h2, _, h4⟩ := stepOk_iff.1 (order_step ho hi)
  exact ⟨h1, h2, fun f hf => List.mem_of_mem_take (h4 f hf)⟩
theorem order_nodup {plan : List Node} {D : List Int} (ho : orderOk plan D = true) : D.Nodup := by
  have : ∀ k, k ≤ D.length → (D.take k).Nodup := by
    intro k
    induction k with
    | zero => intro _; simp
    | succ k ih =>
      intro hk
      rw [List.take_succ_eq_append_getElem (by omega), List.nodup_append]
      refine ⟨ih (by omega), by simp, fun a ha b hb e => ?_⟩
      obtain rfl : b = D[k] := by simpa using hb
      exact (stepOk_iff.1 (order_step ho (i := k) (by omega))).2.2.1 (e ▸ ha)
  have := this D.length (Nat.le_refl _)
  rwa [List.take_length] at this
/-! Counts. -/
def countsOf (plan : List Node) : List Int := (List.range plan.length).map fun i => ((needsOf plan i).length : Int)
def lefts (plan : List Node) (D : List Int) : List Int := (List.range plan.length).map fun i => (left plan D i : Int)
def takeCounts (plan : List Node) (cs : List Int) (x : Int) : List Int := cs.zipIdx.map fun y : Int × Nat => if has plan y.2 x then y.1 - 1 else y.1
def countsAfter (plan : List Node) (D : List Int) : List Int := D.foldl (takeCounts plan) (countsOf plan)
theorem lefts_nil (plan : List Node) : lefts plan [] = countsOf plan := by
  unfold lefts countsOf
  simp only [left_nil]
theorem lefts_len (plan : List Node) (D : List Int) : (lefts plan D).length = plan.length := by unfold lefts; rw [List.length_map, List.length_range]
theorem lefts_get {plan : List Node} (D : List Int) {i : Nat} (h : i < plan.length) : (lefts plan D)[i]? = some (left plan D i : Int) := by
  unfold lefts
  rw [List.getElem?_map, List.getElem?_range h]
  rfl
theorem takeCounts_len (plan : List Node) (cs : List Int) (x : Int) : (takeCounts plan cs x).length = cs.length := by unfold takeCounts; rw [List.length_map, List.length_zipIdx]
theorem takeCounts_get {plan : List Node} {cs : List Int} {x : Int} {i : Nat} {c : Int} (h : cs[i]? = some c) : (takeCounts plan cs x)[i]? = some (if has plan i x then c - 1 else c) := by
  unfold takeCounts
  rw [List.getElem?_map, List.getElem?_zipIdx, h]
  simp
theorem lefts_snoc {plan : List Node} (hv : planValid plan = true) {D : List Int} {x : Int} (hx : x ∉ D) (h0 : 0 ≤ x) : takeCounts plan (lefts plan D) x = lefts plan (D ++ [x]) := by
  apply List.ext_getElem?
  intro i
  by_cases hi : i < plan.length
  · rw [takeCounts_get (lefts_get D hi), lefts_get _ hi]
    have := left_snoc hv hx h0 i
    congr 1
    split
    · rw [if_pos (by assumption)] at this
      omega
    · rw [if_neg (by assumption)] at this
      omega
  · rw [List.getElem?_eq_none (by rw [takeCounts_len, lefts_len]; omega), List.getElem?_eq_none (by rw [lefts_len]; omega)]
theorem counts_lefts {plan : List Node} (hv : planValid plan = true) {D : List Int} (ho : orderOk plan D = true) : ∀ k, k ≤ D.length → countsAfter plan (D.take k) = lefts plan (D.take k) := by
  intro k
  induction k with
  | zero => intro _; exact (lefts_nil plan).symm
  | succ k ih =>
    intro hk
    have h1 : orderTo plan D (k + 1) = true := orderTo_le hk ho
    rw [orderTo_succ, Bool.and_eq_true] at h1
    have h2 := stepOk_iff.1 h1.2
    have hg : D.getD k 0 = D[k] := by rw [List.getD_eq_getElem?_getD, List.getElem?_eq_getElem (by omega)]; rfl
    rw [hg] at h2
    rw [List.take_succ_eq_append_getElem (by omega)]
    unfold countsAfter at ih ⊢
    rw [List.foldl_append, ih (by omega)]
    exact lefts_snoc hv h2.2.2.1 h2.1
theorem countsAfter_eq {plan : List Node} (hv : planValid plan = true) {D : List Int} (ho : orderOk plan D = true) : countsAfter plan D = lefts plan D := by
  have := counts_lefts hv ho D.length (Nat.le_refl _)
  rwa [List.take_length] at this
end Go.Proofs.YtihobnheficpjaaGreatDoor
namespace Go.Proofs.YtihobnheficpjaaGreatDoor
def zipRow (f : Int → Int → Int) (a b : List Int) : List Int := List.zipWith (fun x y => f x y % 1009) a b
def rowBoth (f : Int → Int → Int) (a b : List Int) : Option (List Int) := if rowValid a && rowValid b && decide (a.length = b.length) then some (zipRow f a b) else none
def addI (x y : Int) : Int := x + y
def mulI (x y : Int) : Int := x * y
def rowAdd (a b : List Int) : Option (List Int) := rowBoth addI a b
def rowTimes (a b : List Int) : Option (List Int) := rowBoth mulI a b
def sumsFrom (s : Int) : List Int → List Int
  | [] => []
  | x :: xs => ((s + x) % 1009) :: sumsFrom ((s + x) % 1009) xs
def rowSums (l : List Int) : Option (List Int) := if rowValid l then some (sumsFrom 0 l) else none
/-- Ascending values with another one, behind all that are not greater. -/
def putRow : List Int → Int → List Int
  | [], n => [n]
  | x :: xs, n => if n < x then n :: x :: xs else x :: putRow xs n
def sortRow (l : List Int) : List Int := l.foldl putRow []
def rowSort (l : List Int) : Option (List Int) := if rowValid l then some (sortRow l) else none
def rowTurn (l : List Int) : Option (List Int) := if rowValid l then some l.reverse else none
def kindRun (k : Int) : List (List Int) → Option (List Int)
  | [a, b] => if k = 1 then rowAdd a b else if k = 2 then rowTimes a b else none
  | [a] => if k = 3 then rowSums a else if k = 4 then rowSort a else if k = 5 then rowTurn a else none
  | _ => none
theorem rowValid_mem {l : List Int} (h : rowValid l = true) {x : Int} (hx : x ∈ l) : 0 ≤ x ∧ x ≤ 1008 := by
  unfold rowValid at h
  simp only [Bool.and_eq_true, decide_eq_true_eq, List.all_eq_true] at h
  have := h.1 x hx
  unfold inRow at this
  simpa using this
theorem rowValid_len {l : List Int} (h : rowValid l = true) : l.length ≤ 6 := by
  unfold rowValid at h
  simp only [Bool.and_eq_true, decide_eq_true_eq] at h
  exact h.2
theorem rowValid_of {l : List Int} (h : ∀ x ∈ l, 0 ≤ x ∧ x ≤ 1008) (hl : l.length ≤ 6) : rowValid l = true := by
  unfold rowValid
  simp only [Bool.and_eq_true, decide_eq_true_eq, List.all_eq_true]
  refine ⟨fun x hx => ?_, hl⟩
  have := h x hx
  unfold inRow
  simp
  omega
/-! Sorting. -/
theorem putRow_perm (l : List Int) (n : Int) : (putRow l n).Perm (n :: l) := by
  induction l with
  | nil => exact List.Perm.refl _
  | cons x xs ih =>
    unfold putRow
    split
    · exact List.Perm.refl _
    · exact (List.Perm.cons x ih).trans (List.Perm.swap n x xs)
theorem putRow_sorted {l : List Int} (n : Int) (h : l.Pairwise (· ≤ ·)) : (putRow l n).Pairwise (· ≤ ·) := by
  induction l with
  | nil => simp [putRow]
  | cons x xs ih =>
    have h1 := List.pairwise_cons.1 h
    unfold putRow
    split
    · rename_i hx
      refine List.pairwise_cons.2 ⟨?_, h⟩
      intro y hy
      rcases List.mem_cons.1 hy with rfl | hy
      · omega
      · have := h1.1 y hy
        omega
    · refine List.pairwise_cons.2 ⟨?_, ih h1.2⟩
      intro y hy
      rcases List.mem_cons.1 ((putRow_perm xs n).mem_iff.1 hy) with rfl | hy
      · omega
      · exact h1.1 y hy
theorem sortRow_gen (l acc : List Int) (h : acc.Pairwise (· ≤ ·)) : (l.foldl putRow acc).Perm (l ++ acc) ∧ (l.foldl putRow acc).Pairwise (· ≤ ·) := by
  induction l generalizing acc with
  | nil => exact ⟨List.Perm.refl _, h⟩
  | cons x xs ih =>
    obtain ⟨h1, h2⟩ := ih (putRow acc x) (putRow_sorted x h)
    refine ⟨h1.trans ?_, h2⟩
    refine (List.Perm.append_left xs (putRow_perm acc x)).trans ?_
    exact List.perm_middle
theorem sortRow_perm (l : List Int) : (sortRow l).Perm l := by
  have := (sortRow_gen l [] List.Pairwise.nil).1
  rw [List.append_nil] at this
  exact this
theorem sortRow_sorted (l : List Int) : (sortRow l).Pairwise (· ≤ ·) := (sortRow_gen l [] List.Pairwise.nil).2
theorem sorted_unique : ∀ {a b : List Int}, a.Perm b → a.Pairwise (· ≤ ·) → b.Pairwise (· ≤ ·) → a = b
  | [], b, h, _, _ => by simpa using h.symm
  | x :: xs, [], h, _, _ => by simp at h
  | x :: xs, y :: ys, h, ha, hb => by
    have ha' := List.pairwise_cons.1 ha
    have hb' := List.pairwise_cons.1 hb
    have hx : x ∈ y :: ys := h.mem_iff.1 (by simp)
    have hy : y ∈ x :: xs := h.mem_iff.2 (by simp)
    have e : x = y := by
      rcases List.mem_cons.1 hx with h1 | h1
      · exact h1
      · rcases List.mem_cons.1 hy with h2 | h2
        · exact h2.symm
        · have := ha'.1 y h2
          have := hb'.1 x h1
          omega
    subst e
    rw [sorted_unique (List.Perm.cons_inv h) ha'.2 hb'.2]
theorem sortRow_eq {l m : List Int} (h : m.Perm l) (hs : m.Pairwise (· ≤ ·)) : m = sortRow l :=
  sorted_unique (h.trans (sortRow_perm l).symm) hs (sortRow_sorted l)
theorem sortRow_len (l : List Int) : (sortRow l).length = l.length := (sortRow_perm l).length_eq
/-! Lengths and ranges. -/
theorem sumsFrom_len (s : Int) (l : List Int) : (sumsFrom s l).length = l.length := by
  induction l generalizing s with
  | nil => rfl
  | cons x xs ih => simp [sumsFrom, ih]
theorem sumsFrom_in (s : Int) (l : List Int) : ∀ x ∈ sumsFrom s l, 0 ≤ x ∧ x ≤ 1008 := by
  induction l generalizing s with
  | nil => intro x hx; simp [sumsFrom] at hx
  | cons y ys ih =>
    intro x hx
    rcases List.mem_cons.1 hx with rfl | hx
    · omega
    · exact ih _ x hx
theorem zipRow_len {f : Int → Int → Int} {a b : List Int} (h : a.length = b.length) : (zipRow f a b).length = a.length := by
  unfold zipRow
  rw [List.length_zipWith]
  omega
theorem zipRow_in (f : Int → Int → Int) (a b : List Int) : ∀ x ∈ zipRow f a b, 0 ≤ x ∧ x ≤ 1008 := by
  intro x hx
  unfold zipRow at hx
  obtain ⟨i, hi⟩ := List.mem_iff_getElem?.1 hx
  rw [List.getElem?_zipWith] at hi
  split at hi
  · injection hi with hi
    omega
  · cases hi
theorem rowBoth_valid {f : Int → Int → Int} {a b r : List Int} (h : rowBoth f a b = some r) : rowValid r = true ∧ r.length = a.length ∧ r.length = b.length ∧ rowValid a = true ∧ rowValid b = true := by
  unfold rowBoth at h
  split at h
  · rename_i hc
    injection h with h
    subst h
    simp only [Bool.and_eq_true, decide_eq_true_eq] at hc
    have hl := zipRow_len (f := f) hc.2
    exact ⟨rowValid_of (zipRow_in f a b) (by rw [hl]; exact rowValid_len hc.1.1), hl, by omega, hc.1.1, hc.1.2⟩
  · cases h
theorem kindRun_valid {k : Int} {rows : List (List Int)} {r : List Int} (h : kindRun k rows = some r) : rowValid r = true ∧ (rows.length : Int) = kindNeeds k ∧ ∀ l ∈ rows, l.length = r.length ∧ rowValid l = true := by
  have two : ∀ {f : Int → Int → Int} {a b : List Int}, rowBoth f a b = some r → ∀ l ∈ [a, b], l.length = r.length ∧ rowValid l = true := by
    intro f a b h l hl
    obtain ⟨_, h1, h2, h3, h4⟩ := rowBoth_valid h
    simp at hl
    rcases hl with rfl | rfl
    · exact ⟨h1.symm, h3⟩
    · exact ⟨h2.symm, h4⟩
  unfold kindRun at h
  split at h
  · rename_i a b
    split at h
    · rename_i hk
      subst hk
      exact ⟨(rowBoth_valid h).1, rfl, two h⟩
    · split at h
      · rename_i hk
        subst hk
        exact ⟨(rowBoth_valid h).1, rfl, two h⟩
      · cases h
  · rename_i a
    have one : ∀ {m : List Int}, rowValid a = true → m.length = a.length → (∀ x ∈ m, 0 ≤ x ∧ x ≤ 1008) → rowValid m = true ∧ ∀ l ∈ [a], l.length = m.length ∧ rowValid l = true := by
      intro m hv hl hm
      refine ⟨rowValid_of hm (by rw [hl]; exact rowValid_len hv), fun l hl' => ?_⟩
      simp at hl'
      subst hl'
      exact ⟨hl.symm, hv⟩
    split at h
    · rename_i hk
      subst hk
      unfold rowSums at h
      split at h
      · rename_i hv
        injection h with h
        subst h
        obtain ⟨h1, h2⟩ := one hv (sumsFrom_len 0 a) (sumsFrom_in 0 a)
        exact ⟨h1, rfl, h2⟩
      · cases h
    · split at h
      · rename_i hk
        subst hk
        unfold rowSort at h
        split at h
        · rename_i hv
          injection h with h
          subst h
          obtain ⟨h1, h2⟩ := one hv (sortRow_len a) (fun x hx => rowValid_mem hv ((sortRow_perm a).mem_iff.1 hx))
          exact ⟨h1, rfl, h2⟩
        · cases h
      · split at h
        · rename_i hk
          subst hk
          unfold rowTurn at h
          split at h
          · rename_i hv
            injection h with h
            subst h
            obtain ⟨h1, h2⟩ := one (m := a.reverse) hv (by simp) (fun x hx => rowValid_mem hv (by simpa using hx))
            exact ⟨h1, rfl, h2⟩
          · cases h
        · cases h
  · cases h
end Go.Proofs.YtihobnheficpjaaGreatDoor
