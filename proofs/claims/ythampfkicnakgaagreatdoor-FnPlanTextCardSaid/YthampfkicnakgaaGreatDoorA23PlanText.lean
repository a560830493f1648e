/- The plain functions on values of plans. Conditions: none. · The plain functions on texts of plans. Conditions: none. -/
import Derived.Test.YthampfkicnakgaaGreatDoorA2Pure
import Derived.Test.YthampfkicnakgaaGreatDoorA4Vals
import Derived.Test.YthampfkicnakgaaGreatDoorL23NodeText
namespace Go.Proofs.YthampfkicnakgaaGreatDoor
/-- The row of a node from the rows of the ones ahead of it. -/
def stepRow (x : Node) (rows : List (List Int)) : List Int := if x.kind = 0 then x.row else (kindRun x.kind (x.frm.map fun i => rows.getD i.toNat [])).getD []
/-- The rows of the first k nodes. -/
def valuesTo (plan : List Node) : Nat → List (List Int)
  | 0 => []
  | k + 1 => valuesTo plan k ++ [match plan[k]? with
    | some x => stepRow x (valuesTo plan k)
    | none => []]
def values (plan : List Node) : List (List Int) := valuesTo plan plan.length
theorem valuesTo_len (plan : List Node) (k : Nat) : (valuesTo plan k).length = k := by
  induction k with
  | zero => rfl
  | succ k ih => simp [valuesTo, ih]
theorem values_len (plan : List Node) : (values plan).length = plan.length := valuesTo_len plan _
theorem valuesTo_succ {plan : List Node} {k : Nat} {x : Node} (h : plan[k]? = some x) : valuesTo plan (k + 1) = valuesTo plan k ++ [stepRow x (valuesTo plan k)] := by
  rw [valuesTo, h]
theorem valuesTo_take (plan : List Node) {i k : Nat} (h : i ≤ k) : (valuesTo plan k).take i = valuesTo plan i := by
  induction k with
  | zero =>
    obtain rfl : i = 0 := by omega
    rfl
  | succ k ih =>
    by_cases hk : i = k + 1
    · subst hk
      rw [List.take_of_length_le (by rw [valuesTo_len]; omega)]
    · rw [valuesTo, List.take_append_of_le_length (by rw [valuesTo_len]; omega), ih (by omega)]
theorem valuesTo_getD (plan : List Node) {i k m : Nat} (h : i < k) (hm : i < m) : (valuesTo plan k).getD i [] = (valuesTo plan m).getD i [] := by
  have e : ∀ k : Nat, i < k → (valuesTo plan k).getD i [] = (valuesTo plan (i + 1)).getD i [] := by
    intro k hk
    rw [← valuesTo_take plan (show i + 1 ≤ k by omega)]
    simp only [List.getD_eq_getElem?_getD]
    rw [List.getElem?_take, if_pos (by omega)]
  rw [e k h, e m hm]
/-- The value of node i. -/
def valAt (plan : List Node) (i : Nat) : List Int := (values plan).getD i []
theorem valAt_get {plan : List Node} {i : Nat} (h : i < plan.length) : (values plan)[i]? = some (valAt plan i) := by
  unfold valAt
  rw [List.getD_eq_getElem?_getD, List.getElem?_eq_getElem (by rw [values_len]; exact h)]
  rfl
theorem kindRun_some {k : Int} {rows : List (List Int)} {n : Nat} (h0 : 1 ≤ k) (h5 : k ≤ 5) (hl : (rows.length : Int) = kindNeeds k) (hr : ∀ l ∈ rows, rowValid l = true ∧ l.length = n) : ∃ r, kindRun k rows = some r := by
  have both : ∀ (f : Int → Int → Int) (a b : List Int), rowValid a = true → rowValid b = true → a.length = b.length → ∃ r, rowBoth f a b = some r := by
    intro f a b ha hb hab
    unfold rowBoth
    rw [ha, hb, decide_eq_true hab]
    exact ⟨_, rfl⟩
  have two : (kindNeeds k = 2) → ∃ a b, rows = [a, b] ∧ rowValid a = true ∧ rowValid b = true ∧ a.length = b.length := by
    intro e
    rw [e] at hl
    match rows, hl with
    | [a, b], _ =>
      have ha := hr a (by simp)
      have hb := hr b (by simp)
      exact ⟨a, b, rfl, ha.1, hb.1, by omega⟩
    | [], hl => simp at hl
    | [_], hl => simp at hl
    | _ :: _ :: _ :: _, hl => simp at hl; omega
  have one : (kindNeeds k = 1) → ∃ a, rows = [a] ∧ rowValid a = true := by
    intro e
    rw [e] at hl
    match rows, hl with
    | [a], _ => exact ⟨a, rfl, (hr a (by simp)).1⟩
    | [], hl => simp at hl
    | _ :: _ :: _, hl => simp at hl; omega
  rcases (show k = 1 ∨ k = 2 ∨ k = 3 ∨ k = 4 ∨ k = 5 by omega) with rfl | rfl | rfl | rfl | rfl
  · obtain ⟨a, b, rfl, ha, hb, hab⟩ := two (by decide)
    exact both _ a b ha hb hab
  · obtain ⟨a, b, rfl, ha, hb, hab⟩ := two (by decide)
    exact both _ a b ha hb hab
  · obtain ⟨a, rfl, ha⟩ := one (by decide)
    exact ⟨_, by show rowSums a = _; unfold rowSums; rw [if_pos ha]⟩
  · obtain ⟨a, rfl, ha⟩ := one (by decide)
    exact ⟨_, by show rowSort a = _; unfold rowSort; rw [if_pos ha]⟩
  · obtain ⟨a, rfl, ha⟩ := one (by decide)
    exact ⟨_, by show rowTurn a = _; unfold rowTurn; rw [if_pos ha]⟩
/-- What a node that fits asks, of use here. -/
theorem fits_kind {x : Node} {a : Int} (h : nodeFits x a = true) : (0 ≤ x.kind ∧ x.kind ≤ 5) ∧ (x.frm.length : Int) = kindNeeds x.kind ∧ (∀ y ∈ x.frm, 0 ≤ y ∧ y < a) ∧ (x.kind = 0 → rowValid x.row = true) := by
  unfold nodeFits at h
  simp only [Bool.and_eq_true, decide_eq_true_eq, List.all_eq_true] at h
  obtain ⟨⟨⟨h1, h2⟩, h3⟩, h4⟩ := h
  refine ⟨?_, h2, h3, fun e => ?_⟩
  · unfold kindValid at h1
    simpa using h1
  · rw [if_pos e] at h4
    exact h4
theorem fits_zero {x : Node} (h : nodeFits x 0 = true) : x.kind = 0 := by
  obtain ⟨⟨h0, h5⟩, h2, h3, -⟩ := fits_kind h
  have e : x.frm = [] := by
    cases hf : x.frm with
    | nil => rfl
    | cons y r =>
      have := h3 y (by rw [hf]; simp)
      omega
  rw [e] at h2
  rcases (show x.kind = 0 ∨ x.kind = 1 ∨ x.kind = 2 ∨ x.kind = 3 ∨ x.kind = 4 ∨ x.kind = 5 by omega) with e | e | e | e | e | e
  · exact e
  all_goals
    rw [e] at h2
    exact absurd h2 (by decide)
/-- All values of a valid plan are valid rows, as wide as given rows. -/
theorem stepRow_valid {plan : List Node} (hv : planValid plan = true) {k : Nat} {x : Node} (hx : plan[k]? = some x) {rows : List (List Int)} (hl : rows.length = k) (hr : ∀ l ∈ rows, rowValid l = true ∧ l.length = wide plan) :
    rowValid (stepRow x rows) = true ∧ (stepRow x rows).length = wide plan ∧ (x.kind ≠ 0 → kindRun x.kind (x.frm.map fun i => rows.getD i.toNat []) = some (stepRow x rows)) := by
  obtain ⟨hf, -, -, hw⟩ := planValid_node hv hx
  obtain ⟨⟨h0, h5⟩, h2, h3, h4⟩ := fits_kind hf
  unfold stepRow
  by_cases hk : x.kind = 0
  · rw [if_pos hk]
    exact ⟨h4 hk, hw hk, fun h => absurd hk h⟩
  · rw [if_neg hk]
    have hmem : ∀ l ∈ x.frm.map (fun i => rows.getD i.toNat []), rowValid l = true ∧ l.length = wide plan := by
      intro l hl'
      obtain ⟨i, hi, rfl⟩ := List.mem_map.1 hl'
      have := h3 i hi
      have hlt : i.toNat < rows.length := by omega
      rw [List.getD_eq_getElem?_getD, List.getElem?_eq_getElem hlt]
      exact hr _ (List.getElem_mem hlt)
    obtain ⟨r, e⟩ := kindRun_some (by omega) h5 (by rw [List.length_map]; exact h2) hmem
    rw [e]
    obtain ⟨v1, -, v3⟩ := kindRun_valid e
    refine ⟨v1, ?_, fun _ => rfl⟩
    have hne : x.frm ≠ [] := by
      intro e0
      rw [e0] at h2
      rcases (show x.kind = 1 ∨ x.kind = 2 ∨ x.kind = 3 ∨ x.kind = 4 ∨ x.kind = 5 by omega) with e | e | e | e | e
      all_goals
        rw [e] at h2
        exact absurd h2 (by decide)
    obtain ⟨i, r', e1⟩ : ∃ i r', x.frm = i :: r' := by
      cases hf' : x.frm with
      | nil => exact absurd hf' hne
      | cons i r' => exact ⟨i, r', rfl⟩
    have hm0 := v3 (rows.getD i.toNat []) (by rw [e1]; simp)
    have hm1 := hmem (rows.getD i.toNat []) (by rw [e1]; simp)
    show r.length = wide plan
    omega
theorem valuesTo_valid {plan : List Node} (hv : planValid plan = true) : ∀ k, k ≤ plan.length → ∀ l ∈ valuesTo plan k, rowValid l = true ∧ l.length = wide plan := by
  intro k
  induction k with
  | zero => intro _ l hl; simp [valuesTo] at hl
  | succ k ih =>
    intro hk l hl
    have hx : plan[k]? = some plan[k] := List.getElem?_eq_getElem (by omega)
    rw [valuesTo_succ hx] at hl
    rcases List.mem_append.1 hl with hl | hl
    · exact ih (by omega) l hl
    · obtain rfl : l = stepRow plan[k] (valuesTo plan k) := by simpa using hl
      have := stepRow_valid hv hx (valuesTo_len plan k) (ih (by omega))
      exact ⟨this.1, this.2.1⟩
theorem valAt_step {plan : List Node} {i : Nat} {x : Node} (h : plan[i]? = some x) : valAt plan i = stepRow x (valuesTo plan i) := by
  have hi := (List.getElem?_eq_some_iff.1 h).1
  unfold valAt values
  rw [valuesTo_getD plan (m := i + 1) hi (by omega), valuesTo_succ h, List.getD_eq_getElem?_getD, List.getElem?_append_right (by rw [valuesTo_len]; omega), valuesTo_len, Nat.sub_self]
  rfl
theorem valAt_valid {plan : List Node} (hv : planValid plan = true) {i : Nat} (hi : i < plan.length) : rowValid (valAt plan i) = true ∧ (valAt plan i).length = wide plan :=
  valuesTo_valid hv _ (Nat.le_refl _) _ (List.mem_of_getElem? (valAt_get hi))
/-- A node's value, from the values of those that it needs. -/
theorem valAt_run {plan : List Node} (hv : planValid plan = true) {i : Nat} {x : Node} (h : plan[i]? = some x) (hk : x.kind ≠ 0) : kindRun x.kind (x.frm.map fun j => valAt plan j.toNat) = some (valAt plan i) := by
  have hi := (List.getElem?_eq_some_iff.1 h).1
  have hs := (stepRow_valid hv h (valuesTo_len plan i) (valuesTo_valid hv i (by omega))).2.2 hk
  rw [← valAt_step h] at hs
  rw [← hs]
  congr 1
  refine List.map_congr_left (fun j hj => ?_)
  have := nodeFits_mem (planValid_node hv h).1 hj
  exact valuesTo_getD plan (by omega) (by omega)
theorem valAt_fixed {plan : List Node} {i : Nat} {x : Node} (h : plan[i]? = some x) (hk : x.kind = 0) : valAt plan i = x.row := by
  rw [valAt_step h]
  unfold stepRow
  rw [if_pos hk]
/-! The first nodes of a plan. -/
theorem wide_take {plan : List Node} (hv : planValid plan = true) {m : Nat} (hm : 0 < m) (hl : 0 < plan.length) : wide (plan.take m) = wide plan := by
  have hx : plan[0]? = some plan[0] := List.getElem?_eq_getElem hl
  have hk := fits_zero (planValid_node hv hx).1
  have h1 := wide_first hx hk (by simp)
  have h2 := wide_first (plan := plan.take m) (k := 0) (nd := plan[0]) (by rw [List.getElem?_take, if_pos hm]; exact hx) hk (by simp)
  rw [h1, h2]
theorem valid_take {plan : List Node} (hv : planValid plan = true) (m : Nat) : planValid (plan.take m) = true := by
  by_cases h0 : m = 0 ∨ plan.length = 0
  · have e : plan.take m = [] := by
      rcases h0 with rfl | h0
      · rfl
      · rw [List.eq_nil_of_length_eq_zero h0, List.take_nil]
    rw [e]
    rfl
  · have hw := wide_take hv (m := m) (by omega) (by omega)
    have h10 := planValid_len hv
    unfold planValid at hv ⊢
    rw [hw]
    simp only [Bool.and_eq_true, decide_eq_true_eq, List.all_eq_true] at hv ⊢
    refine ⟨fun x hx => hv.1 x ?_, by rw [List.length_take]; omega⟩
    obtain ⟨i, hi⟩ := List.mem_iff_getElem?.1 hx
    rw [List.getElem?_zipIdx] at hi
    obtain ⟨y, hy, e⟩ := Option.map_eq_some_iff.1 hi
    rw [List.getElem?_take] at hy
    split at hy
    · refine List.mem_of_getElem? (i := i) ?_
      rw [List.getElem?_zipIdx, hy]
      exact congrArg some e
    · cases hy
theorem valuesTo_of_take (plan : List Node) (m : Nat) : ∀ k, k ≤ m → valuesTo (plan.take m) k = valuesTo plan k := by
  intro k
  induction k with
  | zero => intro _; rfl
  | succ k ih =>
    intro hk
    rw [valuesTo, valuesTo, ih (by omega), List.getElem?_take, if_pos (by omega)]
theorem valAt_take {plan : List Node} {m i : Nat} (hi : i < (plan.take m).length) : valAt (plan.take m) i = valAt plan i := by
  have hl : (plan.take m).length ≤ m := by rw [List.length_take]; omega
  have hl2 : (plan.take m).length ≤ plan.length := by rw [List.length_take]; omega
  unfold valAt values
  rw [valuesTo_of_take plan m _ hl]
  exact valuesTo_getD plan hi (by omega)
end Go.Proofs.YthampfkicnakgaaGreatDoor
namespace Go.Proofs.YthampfkicnakgaaGreatDoor
open Go

/-- The line of a node, its number and its value given. -/
def lineText (x : Node) (i : Nat) (v : List Int) : List UInt8 := Lib.decDigits i ++ ([32] ++ (nodeText x ++ ((if x.kind = 0 then [] else [32, 61, 32] ++ rowText v) ++ [10])))
/-- The lines of the first k nodes. -/
def linesTo (plan : List Node) : Nat → List UInt8
  | 0 => []
  | k + 1 => linesTo plan k ++ (match plan[k]? with
    | some x => lineText x k (valAt plan k)
    | none => [])
def planText (plan : List Node) : List UInt8 := if planValid plan then linesTo plan plan.length else []
theorem linesTo_succ {plan : List Node} {k : Nat} {x : Node} (h : plan[k]? = some x) : linesTo plan (k + 1) = linesTo plan k ++ lineText x k (valAt plan k) := by
  rw [linesTo, h]
theorem fits_ten {x : Node} {a : Int} (h : nodeFits x a = true) (ha : a ≤ 10) : nodeFits x 10 = true := by
  unfold nodeFits at h ⊢
  simp only [Bool.and_eq_true, decide_eq_true_eq, List.all_eq_true] at h ⊢
  obtain ⟨⟨⟨h1, h2⟩, h3⟩, h4⟩ := h
  exact ⟨⟨⟨h1, h2⟩, fun y hy => ⟨(h3 y hy).1, by have := (h3 y hy).2; omega⟩⟩, h4⟩
theorem node_ten {plan : List Node} (hv : planValid plan = true) {k : Nat} {x : Node} (h : plan[k]? = some x) : nodeFits x 10 = true := by
  obtain ⟨h1, -, h2, -⟩ := planValid_node hv h
  exact fits_ten h1 (by omega)
theorem rowText_len {l : List Int} (h : rowValid l = true) : (rowText l).length ≤ 200 := by
  by_cases hl0 : l = []
  · subst hl0; decide
  · rw [← rowPre_all hl0]
    exact rowPre_len h _
theorem lineText_len {x : Node} {i : Nat} {v : List Int} (hx : nodeFits x 10 = true) (hi : i ≤ 1000) (hv : rowValid v = true) : (lineText x i v).length ≤ 600 := by
  have h1 := dec_len (n := i) (by omega)
  have h2 := nodeText_len hx
  have h3 := rowText_len hv
  unfold lineText
  split <;> simp only [List.length_append, List.length_cons, List.length_nil] <;> omega
theorem linesTo_len {plan : List Node} (hv : planValid plan = true) : ∀ k, k ≤ plan.length → (linesTo plan k).length ≤ 600 * k := by
  intro k
  induction k with
  | zero => intro _; simp [linesTo]
  | succ k ih =>
    intro hk
    have h10 := planValid_len hv
    have hx : plan[k]? = some plan[k] := List.getElem?_eq_getElem (by omega)
    rw [linesTo_succ hx, List.length_append]
    have := ih (by omega)
    have := lineText_len (node_ten hv hx) (by omega) (valAt_valid hv (i := k) (by omega)).1 (i := k)
    omega
theorem linesTo_take {plan : List Node} {m : Nat} : ∀ k, k ≤ (plan.take m).length → linesTo (plan.take m) k = linesTo plan k := by
  intro k
  induction k with
  | zero => intro _; rfl
  | succ k ih =>
    intro hk
    have hl : (plan.take m).length ≤ m := by rw [List.length_take]; omega
    rw [linesTo, linesTo, ih (by omega), valAt_take (by omega), List.getElem?_take, if_pos (by omega)]
theorem linesTo_prefix (plan : List Node) {k m : Nat} (h : k ≤ m) : ∃ r, linesTo plan m = linesTo plan k ++ r := by
  induction m with
  | zero =>
    obtain rfl : k = 0 := by omega
    exact ⟨[], by simp⟩
  | succ m ih =>
    by_cases hk : k = m + 1
    · subst hk
      exact ⟨[], by simp⟩
    · obtain ⟨r, e⟩ := ih (by omega)
      rw [linesTo, e, List.append_assoc]
      exact ⟨_, rfl⟩
/-- A plan begins with its first nodes. -/
theorem planText_take {plan : List Node} (hv : planValid plan = true) (m : Nat) : ∃ r, planText plan = planText (plan.take m) ++ r := by
  unfold planText
  rw [if_pos hv, if_pos (valid_take hv m), linesTo_take _ (Nat.le_refl _)]
  exact linesTo_prefix plan (by rw [List.length_take]; omega)
/-! Newlines. -/
def news (l : List UInt8) : Nat := l.countP (fun b => b == 10)
theorem news_append (a b : List UInt8) : news (a ++ b) = news a + news b := List.countP_append
theorem news_none {l : List UInt8} (h : ∀ b ∈ l, b ≠ 10) : news l = 0 := by
  unfold news
  rw [List.countP_eq_zero]
  intro b hb
  simpa using h b hb
theorem dec_no10 (n : Nat) : ∀ b ∈ Lib.decDigits n, b ≠ 10 := fun b hb => by
  have := dec_mem b hb
  rintro rfl
  revert this
  decide
theorem news_from {l : List Int} (h : ∀ y ∈ l, 0 ≤ y) : news (fromText l) = 0 := by
  refine news_none (fun b hb => ?_)
  unfold fromText at hb
  obtain ⟨w, hw, hb⟩ := List.mem_flatten.1 hb
  obtain ⟨x, hx, rfl⟩ := List.mem_map.1 hw
  obtain ⟨m, rfl⟩ := Int.eq_ofNat_of_zero_le (h x hx)
  rcases List.mem_cons.1 hb with rfl | hb
  · decide
  · rw [show Lib.itoa ((m : Nat) : Int) = Lib.decDigits m from itoa_nat m] at hb
    exact dec_no10 m b hb
theorem news_word (k : Int) : news (kindWord k) = 0 := by
  unfold kindWord
  repeat' split
  all_goals decide
theorem news_node {x : Node} (h : nodeFits x 10 = true) : news (nodeText x) = 0 := by
  obtain ⟨-, -, -, hall, hr, -⟩ := fits_parts h
  unfold nodeText
  rw [if_pos h]
  by_cases hk : x.kind = 0
  · rw [if_pos hk, news_append, news_word]
    show 0 + news ([32] ++ rowText x.row) = 0
    rw [news_append, news_none (fun b hb => (rowText_mem (hr hk) b hb).2)]
    rfl
  · rw [if_neg hk, news_append, news_word, news_from (fun y hy => (hall y hy).1)]
theorem news_line {x : Node} {i : Nat} {v : List Int} (hx : nodeFits x 10 = true) (hv : rowValid v = true) : news (lineText x i v) = 1 := by
  unfold lineText
  rw [news_append, news_append, news_append, news_append, news_none (dec_no10 i), news_node hx]
  have h1 : news (if x.kind = 0 then [] else [32, 61, 32] ++ rowText v) = 0 := by
    split
    · rfl
    · rw [news_append, news_none (fun b hb => (rowText_mem hv b hb).2)]
      rfl
  rw [h1]
  rfl
theorem news_lines {plan : List Node} (hv : planValid plan = true) : ∀ k, k ≤ plan.length → news (linesTo plan k) = k := by
  intro k
  induction k with
  | zero => intro _; rfl
  | succ k ih =>
    intro hk
    have hx : plan[k]? = some plan[k] := List.getElem?_eq_getElem (by omega)
    rw [linesTo_succ hx, news_append, ih (by omega), news_line (node_ten hv hx) (valAt_valid hv (i := k) (by omega)).1]
/-- A line ends with the row. -/
theorem line_end {plan : List Node} (hv : planValid plan = true) {k : Nat} {x : Node} (h : plan[k]? = some x) : ∃ r, lineText x k (valAt plan k) = r ++ ([32] ++ rowText (valAt plan k) ++ [10]) := by
  unfold lineText
  by_cases hk : x.kind = 0
  · rw [if_pos hk, valAt_fixed h hk]
    have hn : nodeText x = kindWord 0 ++ (32 :: rowText x.row) := by
      unfold nodeText
      rw [if_pos (node_ten hv h), if_pos hk]
    rw [hn]
    exact ⟨Lib.decDigits k ++ ([32] ++ kindWord 0), by simp⟩
  · rw [if_neg hk]
    exact ⟨Lib.decDigits k ++ ([32] ++ (nodeText x ++ [32, 61])), by simp⟩
theorem planText_ne {plan : List Node} (hv : planValid plan = true) (h0 : plan ≠ []) : planText plan ≠ [] := by
  intro e
  have := news_lines hv plan.length (Nat.le_refl _)
  unfold planText at e
  rw [if_pos hv] at e
  rw [e] at this
  have h1 := List.length_pos_iff.2 h0
  have h2 : (0 : Nat) = plan.length := this
  omega
theorem planText_end {plan : List Node} (hv : planValid plan = true) {n : Nat} (hn : plan.length = n + 1) : ∃ r, planText plan = r ++ ([32] ++ rowText (valAt plan n) ++ [10]) := by
  have hx : plan[n]? = some plan[n] := List.getElem?_eq_getElem (by omega)
  obtain ⟨r, e⟩ := line_end hv hx
  unfold planText
  rw [if_pos hv, hn, linesTo_succ hx, e, ← List.append_assoc]
  exact ⟨_, rfl⟩
theorem planText_len (plan : List Node) : (planText plan).length ≤ 6000 := by
  unfold planText
  split
  · rename_i hv
    have := linesTo_len hv plan.length (Nat.le_refl _)
    have := planValid_len hv
    omega
  · simp
end Go.Proofs.YthampfkicnakgaaGreatDoor
