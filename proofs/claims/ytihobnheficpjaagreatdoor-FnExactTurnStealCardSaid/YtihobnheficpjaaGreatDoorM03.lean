/- The plain functions on values of plans. Conditions: none. · Plain facts on crews: which are valid; a node done keeps a crew valid. Conditions: none. · Plain facts on crews: the turns. Conditions: none. -/
import Derived.Test.YtihobnheficpjaaGreatDoorM01
import Derived.Test.YtihobnheficpjaaGreatDoorM02
namespace Go.Proofs.YtihobnheficpjaaGreatDoor
/-- The row of a node from the rows of the ones ahead of it. -/
def stepRow (x : Node) (rows : List (List Int)) : List Int := if x.kind = 0 then x.row else (kindRun x.kind (x.frm.map fun i => rows.getD i.toNat [])).getD []
/-- The rows of the first k nodes. -/
def valuesTo (plan : List Node) : Nat → List (List Int)
  | 0 => []
  | k + 1 => valuesTo plan k ++ [match plan[k]? with
    | some x => stepRow x (valuesTo plan k)
    | none => []]
def values (plan : List Node) : List (List Int) := valuesTo plan plan.length
theorem valuesTo_len (plan : List Node) (k : Nat) : (valuesTo plan k).length = k := by
  induction k with
  | zero => rfl
  | succ k ih => simp [valuesTo, ih]
theorem values_len (plan : List Node) : (values plan).length = plan.length := valuesTo_len plan _
theorem valuesTo_succ {plan : List Node} {k : Nat} {x : Node} (h : plan[k]? = some x) : valuesTo plan (k + 1) = valuesTo plan k ++ [stepRow x (valuesTo plan k)] := by
  rw [valuesTo, h]
theorem valuesTo_take (plan : List Node) {i k : Nat} (h : i ≤ k) : (valuesTo plan k).take i = valuesTo plan i := by
  induction k with
  | zero =>
    obtain rfl : i = 0 := by omega
    rfl
  | succ k ih =>
    by_cases hk : i = k + 1
    · subst hk
      rw [List.take_of_length_le (by rw [valuesTo_len]; omega)]
    · rw [valuesTo, List.take_append_of_le_length (by rw [valuesTo_len]; omega), ih (by omega)]
theorem valuesTo_getD (plan : List Node) {i k m : Nat} (h : i < k) (hm : i < m) : (valuesTo plan k).getD i [] = (valuesTo plan m).getD i [] := by
  have e : ∀ k : Nat, i < k → (valuesTo plan k).getD i [] = (valuesTo plan (i + 1)).getD i [] := by
    intro k hk
    rw [← valuesTo_take plan (show i + 1 ≤ k by omega)]
    simp only [List.getD_eq_getElem?_getD]
    rw [List.getElem?_take, if_pos (by omega)]
  rw [e k h, e m hm]
/-- The value of node i. -/
def valAt (plan : List Node) (i : Nat) : List Int := (values plan).getD i []
theorem valAt_get {plan : List Node} {i : Nat} (h : i < plan.length) : (values plan)[i]? = some (valAt plan i) := by
  unfold valAt
  rw [List.getD_eq_getElem?_getD, List.getElem?_eq_getElem (by rw [values_len]; exact h)]
  rfl
theorem kindRun_some {k : Int} {rows : List (List Int)} {n : Nat} (h0 : 1 ≤ k) (h5 : k ≤ 5) (hl : (rows.length : Int) = kindNeeds k) (hr : ∀ l ∈ rows, rowValid l = true ∧ l.length = n) : ∃ r, kindRun k rows = some r := by
  have both : ∀ (f : Int → Int → Int) (a b : List Int), rowValid a = true → rowValid b = true → a.length = b.length → ∃ r, rowBoth f a b = some r := by
    intro f a b ha hb hab
    unfold rowBoth
    rw [ha, hb, decide_eq_true hab]
    exact ⟨_, rfl⟩
  have two : (kindNeeds k = 2) → ∃ a b, rows = [a, b] ∧ rowValid a = true ∧ rowValid b = true ∧ a.length = b.length := by
    intro e
    rw [e] at hl
    match rows, hl with
    | [a, b], _ =>
      have ha := hr a (by simp)
      have hb := hr b (by simp)
      exact ⟨a, b, rfl, ha.1, hb.1, by omega⟩
    | [], hl => simp at hl
    | [_], hl => simp at hl
    | _ :: _ :: _ :: _, hl => simp at hl; omega
  have one : (kindNeeds k = 1) → ∃ a, rows = [a] ∧ rowValid a = true := by
    intro e
    rw [e] at hl
    match rows, hl with
    | [a], _ => exact ⟨a, rfl, (hr a (by simp)).1⟩
    | [], hl => simp at hl
    | _ :: _ :: _, hl => simp at hl; omega
  rcases (show k = 1 ∨ k = 2 ∨ k = 3 ∨ k = 4 ∨ k = 5 by omega) with rfl | rfl | rfl | rfl | rfl
  · obtain ⟨a, b, rfl, ha, hb, hab⟩ := two (by decide)
    exact both _ a b ha hb hab
  · obtain ⟨a, b, rfl, ha, hb, hab⟩ := two (by decide)
    exact both _ a b ha hb hab
  · obtain ⟨a, rfl, ha⟩ := one (by decide)
    exact ⟨_, by show rowSums a = _; unfold rowSums; rw [if_pos ha]⟩
  · obtain ⟨a, rfl, ha⟩ := one (by decide)
    exact ⟨_, by show rowSort a = _; unfold rowSort; rw [if_pos ha]⟩
  · obtain ⟨a, rfl, ha⟩ := one (by decide)
    exact ⟨_, by show rowTurn a = _; unfold rowTurn; rw [if_pos ha]⟩
/-- What a node that fits asks, of use here. -/
theorem fits_kind {x : Node} {a : Int} (h : nodeFits x a = true) : (0 ≤ x.kind ∧ x.kind ≤ 5) ∧ (x.frm.length : Int) = kindNeeds x.kind ∧ (∀ y ∈ x.frm, 0 ≤ y ∧ y < a) ∧ (x.kind = 0 → rowValid x.row = true) := by
  unfold nodeFits at h
  simp only [Bool.and_eq_true, decide_eq_true_eq, List.all_eq_true] at h
  obtain ⟨⟨⟨h1, h2⟩, h3⟩, h4⟩ := h
  refine ⟨?_, h2, h3, fun e => ?_⟩
  · unfold kindValid at h1
    simpa using h1
  · rw [if_pos e] at h4
    exact h4
theorem fits_zero {x : Node} (h : nodeFits x 0 = true) : x.kind = 0 := by
  obtain ⟨⟨h0, h5⟩, h2, h3, -⟩ := fits_kind h
  have e : x.frm = [] := by
    cases hf : x.frm with
    | nil => rfl
    | cons y r =>
      have := h3 y (by rw [hf]; simp)
      omega
  rw [e] at h2
  rcases (show x.kind = 0 ∨ x.kind = 1 ∨ x.kind = 2 ∨ x.kind = 3 ∨ x.kind = 4 ∨ x.kind = 5 by omega) with e | e | e | e | e | e
  · exact e
  all_goals
    rw [e] at h2
    exact absurd h2 (by decide)
/-- All values of a valid plan are valid rows, as wide as given rows. -/
theorem stepRow_valid {plan : List Node} (hv : planValid plan = true) {k : Nat} {x : Node} (hx : plan[k]? = some x) {rows : List (List Int)} (hl : rows.length = k) (hr : ∀ l ∈ rows, rowValid l = true ∧ l.length = wide plan) :
    rowValid (stepRow x rows) = true ∧ (stepRow x rows).length = wide plan ∧ (x.kind ≠ 0 → kindRun x.kind (x.frm.map fun i => rows.getD i.toNat []) = some (stepRow x rows)) := by
  obtain ⟨hf, -, -, hw⟩ := planValid_node hv hx
  obtain ⟨⟨h0, h5⟩, h2, h3, h4⟩ := fits_kind hf
  unfold stepRow
  by_cases hk : x.kind = 0
  · rw [if_pos hk]
    exact ⟨h4 hk, hw hk, fun h => absurd hk h⟩
  · rw [if_neg hk]
    have hmem : ∀ l ∈ x.frm.map (fun i => rows.getD i.toNat []), rowValid l = true ∧ l.length = wide plan := by
      intro l hl'
      obtain ⟨i, hi, rfl⟩ := List.mem_map.1 hl'
      have := h3 i hi
      have hlt : i.toNat < rows.length := by omega
      rw [List.getD_eq_getElem?_getD, List.getElem?_eq_getElem hlt]
      exact hr _ (List.getElem_mem hlt)
    obtain ⟨r, e⟩ := kindRun_some (by omega) h5 (by rw [List.length_map]; exact h2) hmem
    rw [e]
    obtain ⟨v1, -, v3⟩ := kindRun_valid e
    refine ⟨v1, ?_, fun _ => rfl⟩
    have hne : x.frm ≠ [] := by
      intro e0
      rw [e0] at h2
      rcases (show x.kind = 1 ∨ x.kind = 2 ∨ x.kind = 3 ∨ x.kind = 4 ∨ x.kind = 5 by omega) with e | e | e | e | e
      all_goals
        rw [e] at h2
        exact absurd h2 (by decide)
    obtain ⟨i, r', e1⟩ : ∃ i r', x.frm = i :: r' := by
      cases hf' : x.frm with
      | nil => exact absurd hf' hne
      | cons i r' => exact ⟨i, r', rfl⟩
    have hm0 := v3 (rows.getD i.toNat []) (by rw [e1]; simp)
    have hm1 := hmem (rows.getD i.toNat []) (by rw [e1]; simp)
    show r.length = wide plan
    omega
theorem valuesTo_valid {plan : List Node} (hv : planValid plan = true) : ∀ k, k ≤ plan.length → ∀ l ∈ valuesTo plan k, rowValid l = true ∧ l.length = wide plan := by
  intro k
  induction k with
  | zero => intro _ l hl; simp [valuesTo] at hl
  | succ k ih =>
    intro hk l hl
    have hx : plan[k]? = some plan[k] := List.getElem?_eq_getElem (by omega)
    rw [valuesTo_succ hx] at hl
    rcases List.mem_append.1 hl with hl | hl
    · exact ih (by omega) l hl
    · obtain rfl : l = stepRow plan[k] (valuesTo plan k) := by simpa using hl
      have := stepRow_valid hv hx (valuesTo_len plan k) (ih (by omega))
      exact ⟨this.1, this.2.1⟩
theorem valAt_step {plan : List Node} {i : Nat} {x : Node} (h : plan[i]? = some x) : valAt plan i = stepRow x (valuesTo plan i) := by
  have hi := (List.getElem?_eq_some_iff.1 h).1
  unfold valAt values
  rw [valuesTo_getD plan (m := i + 1) hi (by omega), valuesTo_succ h, List.getD_eq_getElem?_getD, List.getElem?_append_right (by rw [valuesTo_len]; omega), valuesTo_len, Nat.sub_self]
  rfl
theorem valAt_valid {plan : List Node} (hv : planValid plan = true) {i : Nat} (hi : i < plan.length) : rowValid (valAt plan i) = true ∧ (valAt plan i).length = wide plan :=
  valuesTo_valid hv _ (Nat.le_refl _) _ (List.mem_of_getElem? (valAt_get hi))
/-- A node's value, from the values of those that it needs. -/
theorem valAt_run {plan : List Node} (hv : planValid plan = true) {i : Nat} {x : Node} (h : plan[i]? = some x) (hk : x.kind ≠ 0) : kindRun x.kind (x.frm.map fun j => valAt plan j.toNat) = some (valAt plan i) := by
  have hi := (List.getElem?_eq_some_iff.1 h).1
  have hs := (stepRow_valid hv h (valuesTo_len plan i) (valuesTo_valid hv i (by omega))).2.2 hk
  rw [← valAt_step h] at hs
  rw [← hs]
  congr 1
  refine List.map_congr_left (fun j hj => ?_)
  have := nodeFits_mem (planValid_node hv h).1 hj
  exact valuesTo_getD plan (by omega) (by omega)
theorem valAt_fixed {plan : List Node} {i : Nat} {x : Node} (h : plan[i]? = some x) (hk : x.kind = 0) : valAt plan i = x.row := by
  rw [valAt_step h]
  unfold stepRow
  rw [if_pos hk]
/-! The first nodes of a plan. -/
theorem wide_take {plan : List Node} (hv : planValid plan = true) {m : Nat} (hm : 0 < m) (hl : 0 < plan.length) : wide (plan.take m) = wide plan := by
  have hx : plan[0]? = some plan[0] := List.getElem?_eq_getElem hl
  have hk := fits_zero (planValid_node hv hx).1
  have h1 := wide_first hx hk (by simp)
  have h2 := wide_first (plan := plan.take m) (k := 0) (nd := plan[0]) (by rw [List.getElem?_take, if_pos hm]; exact hx) hk (by simp)
  rw [h1, h2]
theorem valid_take {plan : List Node} (hv : planValid plan = true) (m : Nat) : planValid (plan.take m) = true := by
  by_cases h0 : m = 0 ∨ plan.length = 0
  · have e : plan.take m = [] := by
      rcases h0 with rfl | h0
      · rfl
      · rw [List.eq_nil_of_length_eq_zero h0, List.take_nil]
    rw [e]
    rfl
  · have hw := wide_take hv (m := m) (by omega) (by omega)
    have h10 := planValid_len hv
    unfold planValid at hv ⊢
    rw [hw]
    simp only [Bool.and_eq_true, decide_eq_true_eq, List.all_eq_true] at hv ⊢
    refine ⟨fun x hx => hv.1 x ?_, by rw [List.length_take]; omega⟩
    obtain ⟨i, hi⟩ := List.mem_iff_getElem?.1 hx
    rw [List.getElem?_zipIdx] at hi
    obtain ⟨y, hy, e⟩ := Option.map_eq_some_iff.1 hi
    rw [List.getElem?_take] at hy
    split at hy
    · refine List.mem_of_getElem? (i := i) ?_
      rw [List.getElem?_zipIdx, hy]
      exact congrArg some e
    · cases hy
theorem valuesTo_of_take (plan : List Node) (m : Nat) : ∀ k, k ≤ m → valuesTo (plan.take m) k = valuesTo plan k := by
  intro k
  induction k with
  | zero => intro _; rfl
  | succ k ih =>
    intro hk
    rw [valuesTo, valuesTo, ih (by omega), List.getElem?_take, if_pos (by omega)]
theorem valAt_take {plan : List Node} {m i : Nat} (hi : i < (plan.take m).length) : valAt (plan.take m) i = valAt plan i := by
  have hl : (plan.take m).length ≤ m := by rw [List.length_take]; omega
  have hl2 : (plan.take m).length ≤ plan.length := by rw [List.length_take]; omega
  unfold valAt values
  rw [valuesTo_of_take plan m _ hl]
  exact valuesTo_getD plan hi (by omega)
end Go.Proofs.YtihobnheficpjaaGreatDoor
namespace Go.Proofs.YtihobnheficpjaaGreatDoor
/-! What is ready. -/
theorem mem_readyTo {plan : List Node} {D : List Int} {k : Nat} (hk : k ≤ plan.length) {x : Int} : x ∈ readyTo plan D k ↔ ∃ i : Nat, i < k ∧ x = i ∧ x ∉ D ∧ ∀ f ∈ frmAt plan i, f ∈ D := by
  induction k with
  | zero => simp [readyTo]
  | succ k ih =>
    have hx : plan[k]? = some plan[k] := List.getElem?_eq_getElem (by omega)
    have hr : readyNode D (plan[k], k) = true ↔ (k : Int) ∉ D ∧ ∀ f ∈ frmAt plan k, f ∈ D := by
      rw [frmAt_get hx]
      unfold readyNode
      simp only [Bool.and_eq_true, Bool.not_eq_true', decide_eq_false_iff_not, List.all_eq_true, decide_eq_true_eq]
    rw [readyTo_succ D hx]
    have ih := ih (by omega)
    constructor
    · intro h
      by_cases hc : readyNode D (plan[k], k) = true
      · rw [if_pos hc] at h
        rcases List.mem_append.1 h with h | h
        · obtain ⟨i, h1, h2⟩ := ih.1 h
          exact ⟨i, by omega, h2⟩
        · obtain rfl : x = (k : Int) := by simpa using h
          exact ⟨k, by omega, rfl, (hr.1 hc).1, (hr.1 hc).2⟩
      · rw [if_neg hc] at h
        obtain ⟨i, h1, h2⟩ := ih.1 h
        exact ⟨i, by omega, h2⟩
    · rintro ⟨i, h1, rfl, h3, h4⟩
      by_cases hik : i = k
      · subst hik
        rw [if_pos (hr.2 ⟨h3, h4⟩)]
        simp
      · have := ih.2 ⟨i, by omega, rfl, h3, h4⟩
        split
        · exact List.mem_append_left _ this
        · exact this
theorem readyTo_nodup (plan : List Node) (D : List Int) : ∀ k, k ≤ plan.length → (readyTo plan D k).Nodup := by
  intro k
  induction k with
  | zero => intro _; simp [readyTo]
  | succ k ih =>
    intro hk
    have hx : plan[k]? = some plan[k] := List.getElem?_eq_getElem (by omega)
    rw [readyTo_succ D hx]
    split
    · rw [List.nodup_append]
      refine ⟨ih (by omega), by simp, fun a ha b hb e => ?_⟩
      obtain rfl : b = (k : Int) := by simpa using hb
      obtain ⟨i, h1, h2, _⟩ := (mem_readyTo (by omega)).1 ha
      omega
    · exact ih (by omega)
theorem readyOf_nodup (plan : List Node) (D : List Int) : (readyOf plan D).Nodup := by
  unfold readyOf
  split
  · exact readyTo_nodup plan D _ (Nat.le_refl _)
  · exact List.nodup_nil
theorem mem_readyOf {plan : List Node} (hv : planValid plan = true) {D : List Int} {x : Int} : x ∈ readyOf plan D ↔ ∃ i : Nat, i < plan.length ∧ x = i ∧ x ∉ D ∧ ∀ f ∈ frmAt plan i, f ∈ D := by
  unfold readyOf
  rw [if_pos hv]
  exact mem_readyTo (Nat.le_refl _)
/-! Which crews are valid. -/
def rowWant (plan : List Node) (D : List Int) (i : Nat) : List Int := if (i : Int) ∈ D then valAt plan i else []
def rowsOk (plan : List Node) (c : Crew) : Bool := (List.range plan.length).all fun i => decide (c.rows.getD i [] = rowWant plan c.done i)
def dequesOk (plan : List Node) (c : Crew) : Bool := decide (c.deques.flatten.length = (readyOf plan c.done).length) && (readyOf plan c.done).all fun x => decide (c.deques.flatten.count x = 1)
def crewValid (plan : List Node) (c : Crew) : Bool :=
  planValid plan && (decide (1 ≤ c.deques.length) && decide (c.deques.length ≤ 4)) && orderOk plan c.done && decide (c.counts = countsAfter plan c.done) && decide (c.rows.length = plan.length) && dequesOk plan c && rowsOk plan c
theorem perm_of_counts {R : List Int} (hn : R.Nodup) : ∀ {F : List Int}, F.length = R.length → (∀ x ∈ R, F.count x = 1) → F.Perm R := by
  induction R with
  | nil =>
    intro F hl _
    obtain rfl : F = [] := List.eq_nil_of_length_eq_zero (by simpa using hl)
    exact List.Perm.refl _
  | cons x R ih =>
    intro F hl hc
    obtain ⟨h1, h2⟩ := List.nodup_cons.1 hn
    have hx : x ∈ F := List.count_pos_iff.1 (by rw [hc x (by simp)]; omega)
    have hp := List.perm_cons_erase hx
    refine hp.trans (List.Perm.cons x (ih h2 ?_ fun y hy => ?_))
    · rw [List.length_erase_of_mem hx, hl]
      simp
    · have hne : y ≠ x := fun e => h1 (e ▸ hy)
      rw [List.count_erase_of_ne hne]
      exact hc y (by simp [hy])
theorem dequesOk_iff {plan : List Node} {c : Crew} : dequesOk plan c = true ↔ c.deques.flatten.Perm (readyOf plan c.done) := by
  have hn := readyOf_nodup plan c.done
  unfold dequesOk
  simp only [Bool.and_eq_true, decide_eq_true_eq, List.all_eq_true]
  constructor
  · rintro ⟨h1, h2⟩
    exact perm_of_counts hn h1 h2
  · intro h
    refine ⟨h.length_eq, fun x hx => ?_⟩
    rw [List.perm_iff_count.1 h x, hn.count, if_pos hx]
structure CrewOk (plan : List Node) (c : Crew) : Prop where
  pv : planValid plan = true
  d1 : 1 ≤ c.deques.length
  d4 : c.deques.length ≤ 4
  order : orderOk plan c.done = true
  counts : c.counts = lefts plan c.done
  rl : c.rows.length = plan.length
  dq : c.deques.flatten.Perm (readyOf plan c.done)
  rows : ∀ i, i < plan.length → c.rows[i]? = some (rowWant plan c.done i)
theorem crewValid_iff {plan : List Node} {c : Crew} : crewValid plan c = true ↔ CrewOk plan c := by
  unfold crewValid
  simp only [Bool.and_eq_true, decide_eq_true_eq, dequesOk_iff]
  constructor
  · rintro ⟨⟨⟨⟨⟨⟨h1, h2, h3⟩, h4⟩, h5⟩, h6⟩, h7⟩, h8⟩
    refine ⟨h1, h2, h3, h4, by rw [h5, countsAfter_eq h1 h4], h6, h7, fun i hi => ?_⟩
    unfold rowsOk at h8
    have := List.all_eq_true.1 h8 i (List.mem_range.2 hi)
    rw [decide_eq_true_eq, List.getD_eq_getElem?_getD, List.getElem?_eq_getElem (by omega)] at this
    rw [List.getElem?_eq_getElem (by omega)]
    exact congrArg some this
  · intro h
    refine ⟨⟨⟨⟨⟨⟨h.pv, h.d1, h.d4⟩, h.order⟩, by rw [countsAfter_eq h.pv h.order]; exact h.counts⟩, h.rl⟩, h.dq⟩, ?_⟩
    unfold rowsOk
    rw [List.all_eq_true]
    intro i hi
    rw [decide_eq_true_eq, List.getD_eq_getElem?_getD, h.rows i (List.mem_range.1 hi)]
    rfl
/-! A node done. -/
def newReady (plan : List Node) (cs : List Int) (x : Int) : List Int := ((List.range plan.length).filter fun i => has plan i x && decide (cs.getD i 0 = 1)).map (fun i : Nat => (i : Int))
theorem mem_newReady {plan : List Node} {cs : List Int} {x y : Int} : y ∈ newReady plan cs x ↔ ∃ i : Nat, i < plan.length ∧ y = i ∧ x ∈ frmAt plan i ∧ cs.getD i 0 = 1 := by
  unfold newReady has
  simp only [List.mem_map, List.mem_filter, List.mem_range, Bool.and_eq_true, decide_eq_true_eq]
  constructor
  · rintro ⟨i, ⟨h1, h2, h3⟩, rfl⟩
    exact ⟨i, h1, rfl, h2, h3⟩
  · rintro ⟨i, h1, rfl, h2, h3⟩
    exact ⟨i, ⟨h1, h2, h3⟩, rfl⟩
theorem newReady_nodup (plan : List Node) (cs : List Int) (x : Int) : (newReady plan cs x).Nodup := by
  unfold newReady
  have h := (List.nodup_range (n := plan.length)).filter (fun i => has plan i x && decide (cs.getD i 0 = 1))
  exact List.Pairwise.map _ (fun a b hab e => hab (by omega)) h
/-- What is ready once a ready node is done: what was ready but this one, and the nodes whose last need it was. -/
theorem ready_done {plan : List Node} (hv : planValid plan = true) {D : List Int} (ho : orderOk plan D = true) {x : Int} (hx : x ∈ readyOf plan D) :
    (readyOf plan (D ++ [x])).Perm ((readyOf plan D).erase x ++ newReady plan (lefts plan D) x) := by
  obtain ⟨m, hm, rfl, hxD, hxf⟩ := (mem_readyOf hv).1 hx
  have hn := readyOf_nodup plan D
  have key : ∀ i : Nat, i < plan.length → ((m : Int) ∈ frmAt plan i ∧ (lefts plan D).getD i 0 = 1 ↔ (m : Int) ∈ frmAt plan i ∧ ∀ f ∈ frmAt plan i, f ∈ D ++ [(m : Int)]) := by
    intro i hi
    have e : (lefts plan D).getD i 0 = (left plan D i : Int) := by rw [List.getD_eq_getElem?_getD, lefts_get D hi]; rfl
    have h1 := left_snoc hv hxD (Int.natCast_nonneg m) i
    rw [e, ← left_zero hv]
    constructor
    · rintro ⟨h2, h3⟩
      rw [if_pos (by unfold has; exact decide_eq_true h2)] at h1
      exact ⟨h2, by omega⟩
    · rintro ⟨h2, h3⟩
      rw [if_pos (by unfold has; exact decide_eq_true h2)] at h1
      exact ⟨h2, by omega⟩
  refine (List.perm_ext_iff_of_nodup (readyOf_nodup _ _) ?_).2 fun y => ?_
  · rw [List.nodup_append]
    refine ⟨hn.erase _, newReady_nodup _ _ _, fun a ha b hb e => ?_⟩
    subst e
    obtain ⟨i, hi, rfl, h2, h3⟩ := mem_newReady.1 hb
    obtain ⟨j, _, hj, h4, h5⟩ := (mem_readyOf hv).1 (List.mem_of_mem_erase ha)
    obtain rfl : i = j := by omega
    exact hxD (h5 _ h2)
  · rw [List.mem_append, hn.mem_erase_iff, mem_readyOf hv, mem_readyOf hv, mem_newReady]
    constructor
    · rintro ⟨i, hi, rfl, h1, h2⟩
      have hne : (i : Int) ≠ m := fun e => h1 (by simp [e])
      have hD : (i : Int) ∉ D := fun e => h1 (by simp [e])
      by_cases hmf : (m : Int) ∈ frmAt plan i
      · exact .inr ⟨i, hi, rfl, (key i hi).2 ⟨hmf, h2⟩⟩
      · refine .inl ⟨hne, i, hi, rfl, hD, fun f hf => ?_⟩
        rcases List.mem_append.1 (h2 f hf) with h | h
        · exact h
        · obtain rfl : f = (m : Int) := by simpa using h
          exact absurd hf hmf
    · rintro (⟨hne, i, hi, rfl, h1, h2⟩ | ⟨i, hi, rfl, h⟩)
      · exact ⟨i, hi, rfl, by simp [h1, hne], fun f hf => by simp [h2 f hf]⟩
      · obtain ⟨h1, h2⟩ := (key i hi).1 h
        refine ⟨i, hi, rfl, fun e => ?_, h2⟩
        rcases List.mem_append.1 e with e | e
        · -- a node that is done needs only what is done
          exact hxD ((order_closed ho e).2.2 _ (by simpa using h1))
        · obtain rfl : i = m := by have e : (i : Int) = m := by simpa using e
                                   omega
          have := frmAt_mem hv h1
          omega
end Go.Proofs.YtihobnheficpjaaGreatDoor
namespace Go.Proofs.YtihobnheficpjaaGreatDoor
theorem flat_set {L : List (List Int)} {w : Nat} (h : w < L.length) (d : List Int) : (L.set w d).flatten.Perm (d ++ (L.eraseIdx w).flatten) := by
  induction L generalizing w with
  | nil => simp at h
  | cons a L ih =>
    cases w with
    | zero => simp
    | succ w =>
      simp only [List.set_cons_succ, List.flatten_cons, List.eraseIdx_cons_succ]
      have := ih (w := w) (by simpa using h)
      refine (List.Perm.append_left a this).trans ?_
      rw [← List.append_assoc, ← List.append_assoc]
      exact List.Perm.append_right _ List.perm_append_comm
theorem flat_get {L : List (List Int)} {w : Nat} {d : List Int} (h : L[w]? = some d) : L.flatten.Perm (d ++ (L.eraseIdx w).flatten) := by
  obtain ⟨hw, rfl⟩ := List.getElem?_eq_some_iff.1 h
  have := flat_set hw L[w]
  rwa [List.set_getElem_self] at this
/-- A node that was taken is done by a worker. -/
def doNode (plan : List Node) (c : Crew) (w : Nat) (x : Int) : Crew :=
  { deques := c.deques.set w (c.deques.getD w [] ++ newReady plan c.counts x), counts := takeCounts plan c.counts x, done := c.done ++ [x], rows := c.rows.set x.toNat (valAt plan x.toNat) }
theorem doNode_ok {plan : List Node} {c : Crew} (hc : CrewOk plan c) {L : List (List Int)} {w : Nat} {x : Int} (hx : x ∈ readyOf plan c.done) (hl : L.length = c.deques.length) (hw : w < c.deques.length) (hp : (x :: L.flatten).Perm c.deques.flatten) :
    CrewOk plan (doNode plan { c with deques := L } w x) := by
  obtain ⟨m, hm, rfl, hxD, hxf⟩ := (mem_readyOf hc.pv).1 hx
  have hwL : w < L.length := by omega
  have hstep : stepOk plan c.done (m : Int) = true := stepOk_iff.2 ⟨Int.natCast_nonneg m, by omega, hxD, by simpa using hxf⟩
  refine ⟨hc.pv, ?_, ?_, ?_, ?_, ?_, ?_, ?_⟩
  · show 1 ≤ (L.set w _).length
    rw [List.length_set, hl]
    exact hc.d1
  · show (L.set w _).length ≤ 4
    rw [List.length_set, hl]
    exact hc.d4
  · show orderOk plan (c.done ++ [(m : Int)]) = true
    rw [orderOk_snoc, hc.order, hstep]
    rfl
  · show takeCounts plan c.counts (m : Int) = lefts plan (c.done ++ [(m : Int)])
    rw [hc.counts]
    exact lefts_snoc hc.pv hxD (Int.natCast_nonneg m)
  · show (c.rows.set _ _).length = plan.length
    rw [List.length_set]
    exact hc.rl
  · show (L.set w (L.getD w [] ++ newReady plan c.counts (m : Int))).flatten.Perm (readyOf plan (c.done ++ [(m : Int)]))
    have h1 := ready_done hc.pv hc.order hx
    rw [← hc.counts] at h1
    refine List.Perm.trans ?_ h1.symm
    have hR : (L.flatten).Perm ((readyOf plan c.done).erase (m : Int)) := by
      have h2 := (hp.trans hc.dq)
      have h3 := List.perm_cons_erase hx
      exact List.Perm.cons_inv (h2.trans h3)
    have hg : L[w]? = some (L.getD w []) := by rw [List.getD_eq_getElem?_getD, List.getElem?_eq_getElem hwL]; rfl
    have h4 := flat_set hwL (L.getD w [] ++ newReady plan c.counts (m : Int))
    have h5 := flat_get hg
    refine h4.trans ?_
    rw [List.append_assoc]
    refine (List.Perm.append_left _ List.perm_append_comm).trans ?_
    rw [← List.append_assoc]
    exact List.Perm.append_right _ (h5.symm.trans hR)
  · intro i hi
    show (c.rows.set (m : Int).toNat (valAt plan (m : Int).toNat))[i]? = some (rowWant plan (c.done ++ [(m : Int)]) i)
    rw [Int.toNat_natCast]
    by_cases him : i = m
    · subst him
      rw [List.getElem?_set_self (by rw [hc.rl]; exact hi)]
      unfold rowWant
      rw [if_pos (by simp)]
    · rw [List.getElem?_set_ne (fun e => him e.symm), hc.rows i hi]
      unfold rowWant
      have : (i : Int) ≠ m := by omega
      by_cases hD : (i : Int) ∈ c.done
      · rw [if_pos hD, if_pos (by simp [hD])]
      · rw [if_neg hD, if_neg (by simp [hD, this])]
/-- A worker's number. -/
def isWorker (c : Crew) (w : Int) : Bool := decide (0 ≤ w) && decide (w < c.deques.length)
def turnRun (plan : List Node) (c : Crew) (w : Int) : Option Crew :=
  if crewValid plan c && isWorker c w then
    (match (c.deques.getD w.toNat []).getLast? with
    | none => none
    | some x => some (doNode plan { c with deques := c.deques.set w.toNat (c.deques.getD w.toNat []).dropLast } w.toNat x))
  else none
def turnSteal (plan : List Node) (c : Crew) (w f : Int) : Option Crew :=
  if crewValid plan c && isWorker c w && isWorker c f && !decide (w = f) && decide (c.deques.getD w.toNat [] = []) then
    (match c.deques.getD f.toNat [] with
    | [] => none
    | x :: r => some (doNode plan { c with deques := c.deques.set f.toNat r } w.toNat x))
  else none
def turnFrom (plan : List Node) (c : Crew) (w : Int) : Int :=
  if crewValid plan c && isWorker c w then
    (match ((List.range c.deques.length).map (fun s => (w.toNat + s) % c.deques.length)).find? (fun i => !decide (c.deques.getD i [] = [])) with
    | some i => (i : Int)
    | none => -1)
  else -1
def turnNext (plan : List Node) (c : Crew) (w : Int) : Option Crew :=
  if turnFrom plan c w = -1 then none else if turnFrom plan c w = w then turnRun plan c w else turnSteal plan c w (turnFrom plan c w)
theorem isWorker_iff {c : Crew} {w : Int} : isWorker c w = true ↔ 0 ≤ w ∧ w < c.deques.length := by
  unfold isWorker
  simp
theorem getD_some {L : List (List Int)} {w : Nat} (h : w < L.length) : L[w]? = some (L.getD w []) := by rw [List.getD_eq_getElem?_getD, List.getElem?_eq_getElem h]; rfl
/-- What a run does: the last one of the worker's deque is done. -/
theorem turnRun_some {plan : List Node} {c c' : Crew} {w : Int} (h : turnRun plan c w = some c') :
    CrewOk plan c ∧ ∃ (k : Nat) (r : List Int) (x : Int), w = k ∧ k < c.deques.length ∧ c.deques[k]? = some (r ++ [x]) ∧ x ∈ readyOf plan c.done ∧ c' = doNode plan { c with deques := c.deques.set k r } k x ∧ CrewOk plan c' := by
  unfold turnRun at h
  split at h
  · rename_i hc
    rw [Bool.and_eq_true] at hc
    obtain ⟨hc, hw⟩ := hc
    obtain ⟨h0, h1⟩ := isWorker_iff.1 hw
    obtain ⟨k, rfl⟩ := Int.eq_ofNat_of_zero_le h0
    have hk : k < c.deques.length := by omega
    have H := crewValid_iff.1 hc
    simp only [Int.toNat_natCast] at h
    have hg := getD_some hk
    generalize c.deques.getD k [] = d at h hg
    split at h
    · cases h
    · rename_i x hx
      obtain ⟨r, rfl⟩ := List.getLast?_eq_some_iff.1 hx
      injection h with h
      rw [List.dropLast_concat] at h
      have hf := flat_get hg
      have hxr : x ∈ readyOf plan c.done := (H.dq.mem_iff).1 (hf.mem_iff.2 (by simp))
      have hp : (x :: (c.deques.set k r).flatten).Perm c.deques.flatten := by
        refine List.Perm.trans ?_ hf.symm
        refine (List.Perm.cons x (flat_set hk r)).trans ?_
        rw [List.append_assoc]
        exact (List.perm_middle (a := x)).symm
      have hok := doNode_ok H (L := c.deques.set k r) hxr (by rw [List.length_set]) hk hp
      exact ⟨H, k, r, x, rfl, hk, hg, hxr, h.symm, h ▸ hok⟩
  · cases h
/-- What a theft does: the first one of the other deque is done. -/
theorem turnSteal_some {plan : List Node} {c c' : Crew} {w f : Int} (h : turnSteal plan c w f = some c') :
    CrewOk plan c ∧ ∃ (k m : Nat) (r : List Int) (x : Int), w = k ∧ f = m ∧ k < c.deques.length ∧ m < c.deques.length ∧ k ≠ m ∧ c.deques[k]? = some [] ∧ c.deques[m]? = some (x :: r) ∧ x ∈ readyOf plan c.done ∧ c' = doNode plan { c with deques := c.deques.set m r } k x ∧ CrewOk plan c' := by
  unfold turnSteal at h
  split at h
  · rename_i hc
    simp only [Bool.and_eq_true, Bool.not_eq_true', decide_eq_false_iff_not, decide_eq_true_eq] at hc
    obtain ⟨⟨⟨⟨hc, hw⟩, hf⟩, hne⟩, he⟩ := hc
    obtain ⟨h0, h1⟩ := isWorker_iff.1 hw
    obtain ⟨h2, h3⟩ := isWorker_iff.1 hf
    obtain ⟨k, rfl⟩ := Int.eq_ofNat_of_zero_le h0
    obtain ⟨m, rfl⟩ := Int.eq_ofNat_of_zero_le h2
    have hk : k < c.deques.length := by omega
    have hm : m < c.deques.length := by omega
    have H := crewValid_iff.1 hc
    simp only [Int.toNat_natCast] at h he
    have hg := getD_some hm
    have hgk := getD_some hk
    rw [he] at hgk
    generalize c.deques.getD m [] = d at h hg
    split at h
    · cases h
    · rename_i x r
      injection h with h
      have hfl := flat_get hg
      have hxr : x ∈ readyOf plan c.done := (H.dq.mem_iff).1 (hfl.mem_iff.2 (by simp))
      have hp : (x :: (c.deques.set m r).flatten).Perm c.deques.flatten := by
        refine List.Perm.trans ?_ hfl.symm
        exact List.Perm.cons x (flat_set hm r)
      have hok := doNode_ok H (L := c.deques.set m r) hxr (by rw [List.length_set]) hk hp
      exact ⟨H, k, m, r, x, rfl, rfl, hk, hm, by omega, hgk, hg, hxr, h.symm, h ▸ hok⟩
  · cases h
/-- While a node is left, one is ready. -/
theorem ready_left {plan : List Node} (hv : planValid plan = true) {D : List Int} {i : Nat} (hi : i < plan.length) (hD : (i : Int) ∉ D) : ∃ x, x ∈ readyOf plan D := by
  induction i using Nat.strongRecOn with
  | ind i ih =>
    by_cases h : ∀ f ∈ frmAt plan i, f ∈ D
    · exact ⟨(i : Int), (mem_readyOf hv).2 ⟨i, hi, rfl, hD, h⟩⟩
    · obtain ⟨f, hf⟩ := Classical.not_forall.1 h
      obtain ⟨hf1, hf2⟩ := Classical.not_imp.1 hf
      obtain ⟨h0, h1, _⟩ := frmAt_mem hv hf1
      obtain ⟨j, rfl⟩ := Int.eq_ofNat_of_zero_le h0
      exact ih j (by omega) (by omega) hf2
theorem nodup_le : ∀ {l m : List Int}, l.Nodup → (∀ y ∈ l, y ∈ m) → l.length ≤ m.length := by
  intro l
  induction l with
  | nil => intro m _ _; simp
  | cons a l ih =>
    intro m hl hm
    obtain ⟨h1, h2⟩ := List.nodup_cons.1 hl
    have ha := hm a (by simp)
    have := ih (m := m.erase a) h2 (fun y hy => by
      have hne : y ≠ a := fun e => h1 (e ▸ hy)
      exact (List.mem_erase_of_ne hne).2 (hm y (by simp [hy])))
    rw [List.length_erase_of_mem ha] at this
    have hp : 0 < m.length := List.length_pos_of_mem ha
    simp only [List.length_cons]
    omega
theorem done_le {plan : List Node} {c : Crew} (h : CrewOk plan c) : c.done.length ≤ plan.length := by
  have hn := order_nodup h.order
  have hs : ∀ y ∈ c.done, y ∈ (List.range plan.length).map (fun i : Nat => (i : Int)) := fun y hy => by
    obtain ⟨h0, h1, _⟩ := order_closed h.order hy
    obtain ⟨j, rfl⟩ := Int.eq_ofNat_of_zero_le h0
    exact List.mem_map.2 ⟨j, List.mem_range.2 (by omega), rfl⟩
  have := nodup_le hn hs
  simpa using this
end Go.Proofs.YtihobnheficpjaaGreatDoor
