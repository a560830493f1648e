/- The plain functions on data that the program's functions compute. Conditions: none. · The plain functions on counts of kinds, costs and levels. Conditions: none. · Plain facts on a plan's graph: who needs whom, and the levels by a queue. Conditions: none. -/

namespace Go.Proofs.YtihobnheficpjaaGreatDoor
structure Node where
  kind : Int
  frm : List Int
  row : List Int
def inRow (x : Int) : Bool := decide (0 ≤ x) && decide (x ≤ 1008)
def rowValid (l : List Int) : Bool := l.all inRow && decide (l.length ≤ 6)
def kindValid (k : Int) : Bool := decide (0 ≤ k) && decide (k ≤ 5)
def kindNeeds (k : Int) : Int := if k < 0 ∨ 5 < k then -1 else if k = 0 then 0 else if k = 1 ∨ k = 2 then 2 else 1
theorem kindNeeds_nonneg {k : Int} (h0 : 0 ≤ k) (h5 : k ≤ 5) : 0 ≤ kindNeeds k := by
  unfold kindNeeds
  repeat' split
  all_goals omega
theorem kindNeeds_le (k : Int) : -1 ≤ kindNeeds k ∧ kindNeeds k ≤ 2 := by
  unfold kindNeeds
  repeat' split
  all_goals omega
/-- How many values the first given row has. -/
def wide (plan : List Node) : Nat := match plan.find? (fun x => x.kind == 0) with
  | some x => x.row.length
  | none => 0
/-- Is a node valid at a place of a plan of that width? -/
def nodeOk (x : Node) (at_ : Int) (wd : Nat) : Bool :=
  decide (kindNeeds x.kind = x.frm.length) && rowValid x.row && x.frm.all (fun y => decide (0 ≤ y) && decide (y ≤ at_ - 1)) && (if x.kind = 0 then decide (x.row.length = wd) else decide (x.row.length = 0))
def planValid (plan : List Node) : Bool := plan.zipIdx.all (fun x => nodeOk x.1 x.2 (wide plan)) && decide (plan.length ≤ 10)
def countNeeds (plan : List Node) : Int := if planValid plan then (plan.map (fun x => (x.frm.length : Int))).sum else -1
/-- What impl.nodeFits asks. -/
def nodeFits (x : Node) (at_ : Int) : Bool :=
  kindValid x.kind && decide ((x.frm.length : Int) = kindNeeds x.kind) && x.frm.all (fun y => decide (0 ≤ y) && decide (y < at_)) && (if x.kind = 0 then rowValid x.row else decide (x.row.length = 0))
def upd {α : Type} (f : Nat → α) (a : Nat) (x : α) : Nat → α := fun b => if b = a then x else f b
theorem upd_same {α : Type} (f : Nat → α) (a : Nat) (x : α) : upd f a x a = x := by simp [upd]
theorem upd_other {α : Type} (f : Nat → α) {a b : Nat} (x : α) (h : b ≠ a) : upd f a x b = f b := by simp [upd, h]
/-- The graph's lists: row 0: the nodes; row 2i+1: what node i needs; row 2i+2: who needs it. -/
def linkL (n f : Nat) (L : Nat → List Nat) : Nat → List Nat :=
  if f ∈ L (2 * n + 1) then L else upd (upd L (2 * n + 1) (L (2 * n + 1) ++ [f])) (2 * f + 2) (L (2 * f + 2) ++ [n])
def linkAll (n : Nat) (frm : List Int) (L : Nat → List Nat) : Nat → List Nat := frm.foldl (fun L f => linkL n f.toNat L) L
def graphStep (L : Nat → List Nat) (x : Node × Nat) : Nat → List Nat := upd (linkAll x.2 x.1.frm L) 0 (linkAll x.2 x.1.frm L 0 ++ [x.2])
def graphTo (plan : List Node) (k : Nat) : Nat → List Nat := (plan.zipIdx.take k).foldl graphStep (fun _ => [])
def graphL (plan : List Node) : Nat → List Nat := graphTo plan plan.length
theorem linkL_zero (n f : Nat) (L : Nat → List Nat) : linkL n f L 0 = L 0 := by
  unfold linkL
  split
  · rfl
  · rw [upd_other _ _ (by omega), upd_other _ _ (by omega)]
theorem linkAll_zero (n : Nat) (frm : List Int) (L : Nat → List Nat) : linkAll n frm L 0 = L 0 := by
  unfold linkAll
  induction frm generalizing L with
  | nil => rfl
  | cons x xs ih => rw [List.foldl_cons, ih, linkL_zero]
theorem linkAll_snoc {n m : Nat} {frm : List Int} {x : Int} (L : Nat → List Nat) (h : frm[m]? = some x) : linkAll n (frm.take (m + 1)) L = linkL n x.toNat (linkAll n (frm.take m) L) := by
  obtain ⟨hm, rfl⟩ := List.getElem?_eq_some_iff.1 h
  unfold linkAll
  rw [List.take_succ_eq_append_getElem hm, List.foldl_append]
  rfl
theorem graphTo_succ {plan : List Node} {k : Nat} {nd : Node} (h : plan[k]? = some nd) : graphTo plan (k + 1) = graphStep (graphTo plan k) (nd, k) := by
  have hz : plan.zipIdx[k]? = some (nd, k) := by simp [h]
  obtain ⟨hk, hx⟩ := List.getElem?_eq_some_iff.1 hz
  unfold graphTo
  rw [List.take_succ_eq_append_getElem hk, List.foldl_append, hx]
  rfl
theorem linkL_len (n f : Nat) (L : Nat → List Nat) (a : Nat) : (linkL n f L a).length ≤ (L a).length + 1 := by
  unfold linkL upd
  split
  · omega
  · dsimp only
    split
    · subst_vars; simp
    · split
      · subst_vars; simp
      · omega
/-- Node by node: what the spec asks is what nodeFits asks, and the width of given rows. -/
theorem nodeOk_eq (x : Node) (at_ : Int) (wd : Nat) : nodeOk x at_ wd = (nodeFits x at_ && (if x.kind = 0 then decide (x.row.length = wd) else true)) := by
  rw [Bool.eq_iff_iff]
  unfold nodeOk nodeFits
  simp only [Bool.and_eq_true, decide_eq_true_eq, List.all_eq_true]
  constructor
  · rintro ⟨⟨⟨h1, h2⟩, h3⟩, h4⟩
    refine ⟨⟨⟨⟨?_, h1.symm⟩, fun y hy => ⟨(h3 y hy).1, by have := (h3 y hy).2; omega⟩⟩, ?_⟩, ?_⟩
    · have : 0 ≤ kindNeeds x.kind := by omega
      unfold kindNeeds at this
      unfold kindValid
      split at this
      · omega
      · simp; omega
    · split
      · exact h2
      · rename_i hk; rw [if_neg hk] at h4; exact h4
    · split
      · rename_i hk; rw [if_pos hk] at h4; exact h4
      · rfl
  · rintro ⟨⟨⟨⟨h0, h1⟩, h3⟩, h4⟩, h5⟩
    refine ⟨⟨⟨h1.symm, ?_⟩, fun y hy => ⟨(h3 y hy).1, by have := (h3 y hy).2; omega⟩⟩, ?_⟩
    · split at h4
      · exact h4
      · have e : x.row = [] := List.eq_nil_of_length_eq_zero (by simpa using h4)
        rw [e]
        rfl
    · split
      · rename_i hk; rw [if_pos hk] at h5; exact h5
      · rename_i hk; rw [if_neg hk] at h4; exact h4
theorem nodeFits_len {x : Node} {at_ : Int} (h : nodeFits x at_ = true) : x.frm.length ≤ 2 := by
  unfold nodeFits at h
  simp only [Bool.and_eq_true, decide_eq_true_eq] at h
  have := (kindNeeds_le x.kind).2
  omega
theorem nodeFits_mem {x : Node} {at_ y : Int} (h : nodeFits x at_ = true) (hy : y ∈ x.frm) : 0 ≤ y ∧ y < at_ := by
  unfold nodeFits at h
  simp only [Bool.and_eq_true, decide_eq_true_eq, List.all_eq_true] at h
  exact h.1.2 y hy
theorem wide_first {plan : List Node} {k : Nat} {nd : Node} (h : plan[k]? = some nd) (hk : nd.kind = 0) (ha : (plan.take k).any (fun x => x.kind == 0) = false) : wide plan = nd.row.length := by
  have : plan.find? (fun x => x.kind == 0) = some nd := by
    rw [List.find?_eq_some_iff_getElem]
    obtain ⟨hk', hx'⟩ := List.getElem?_eq_some_iff.1 h
    refine ⟨by simp [hk], k, hk', hx', fun j hj => ?_⟩
    have := List.any_eq_false.1 ha plan[j] (List.mem_take_iff_getElem.2 ⟨j, by omega, rfl⟩)
    simpa using this
  unfold wide
  rw [this]
def widthTo (plan : List Node) (k : Nat) : Int := if (plan.take k).any (fun x => x.kind == 0) then (wide plan : Int) else -1
theorem widthTo_fixed {plan : List Node} {k : Nat} {nd : Node} (h : plan[k]? = some nd) (hk : nd.kind = 0) : widthTo plan (k + 1) = wide plan := by
  obtain ⟨hl, rfl⟩ := List.getElem?_eq_some_iff.1 h
  unfold widthTo
  rw [List.take_succ_eq_append_getElem hl, List.any_append, if_pos (by simp [hk])]
theorem widthTo_other {plan : List Node} {k : Nat} {nd : Node} (h : plan[k]? = some nd) (hk : nd.kind ≠ 0) : widthTo plan (k + 1) = widthTo plan k := by
  obtain ⟨hl, rfl⟩ := List.getElem?_eq_some_iff.1 h
  unfold widthTo
  rw [List.take_succ_eq_append_getElem hl, List.any_append]
  have : ([plan[k]].any fun x => x.kind == 0) = false := by simp [hk]
  rw [this, Bool.or_false]
theorem planValid_bad {plan : List Node} {k : Nat} {nd : Node} (h : plan[k]? = some nd) (hb : nodeOk nd k (wide plan) = false) : planValid plan = false := by
  have : plan.zipIdx.all (fun x => nodeOk x.1 x.2 (wide plan)) = false := by
    rw [List.all_eq_false]
    exact ⟨(nd, k), List.mem_of_getElem? (show plan.zipIdx[k]? = some (nd, k) by simp [h]), by simp [hb]⟩
  unfold planValid
  rw [this]
  rfl
/-- How many nodes node i needs. -/
def fl (plan : List Node) (i : Nat) : Int := match plan[i]? with
  | some nd => nd.frm.length
  | none => 0
theorem planValid_node {plan : List Node} {i : Nat} {nd : Node} (hv : planValid plan = true) (h : plan[i]? = some nd) : nodeFits nd i = true ∧ nd.frm.length ≤ 2 ∧ i < 10 ∧ (nd.kind = 0 → nd.row.length = wide plan) := by
  unfold planValid at hv
  simp only [Bool.and_eq_true, decide_eq_true_eq] at hv
  have h1 := List.all_eq_true.1 hv.1 (nd, i) (List.mem_of_getElem? (show plan.zipIdx[i]? = some (nd, i) by simp [h]))
  rw [nodeOk_eq] at h1
  simp only [Bool.and_eq_true] at h1
  refine ⟨h1.1, nodeFits_len h1.1, ?_, fun hk => ?_⟩
  · have := (List.getElem?_eq_some_iff.1 h).1
    omega
  · have := h1.2
    rw [if_pos hk] at this
    simpa using this
theorem planValid_len {plan : List Node} (hv : planValid plan = true) : plan.length ≤ 10 := by
  unfold planValid at hv
  simp only [Bool.and_eq_true, decide_eq_true_eq] at hv
  exact hv.2
theorem fl_bound {plan : List Node} (hv : planValid plan = true) (i : Nat) : 0 ≤ fl plan i ∧ fl plan i ≤ 2 := by
  unfold fl
  split
  · rename_i nd h
    have := (planValid_node hv h).2.1
    omega
  · omega
theorem fl_sum {plan : List Node} (hv : planValid plan = true) {n : Nat} (pre : List (Fin n)) : 0 ≤ (pre.map (fun i => fl plan i.1)).sum ∧ (pre.map (fun i => fl plan i.1)).sum ≤ 2 * pre.length := by
  induction pre with
  | nil => simp
  | cons x xs ih =>
    have := fl_bound hv x.1
    simp only [List.map_cons, List.sum_cons, List.length_cons]
    omega
theorem fl_all {plan : List Node} {n : Nat} (hn : n = plan.length) : ((List.finRange n).map (fun i => fl plan i.1)).sum = (plan.map (fun x => (x.frm.length : Int))).sum := by
  subst hn
  congr 1
  apply List.ext_getElem
  · simp
  · intro i h1 h2
    simp [fl]
end Go.Proofs.YtihobnheficpjaaGreatDoor
namespace Go.Proofs.YtihobnheficpjaaGreatDoor
/-- How often each of the numbers 0 to 5 is there. -/
def tally (ks : List Int) : List Int := (List.range 6).map (fun j : Nat => ((ks.countP (fun k => k == (j : Int)) : Nat) : Int))
def countKinds (plan : List Node) : List Int := if planValid plan then tally (plan.map (fun x => x.kind)) else []
theorem tally_len (ks : List Int) : (tally ks).length = 6 := by simp [tally]
theorem tally_get (ks : List Int) {j : Nat} (h : j < 6) : (tally ks)[j]? = some ((ks.countP (fun k => k == (j : Int)) : Nat) : Int) := by
  unfold tally
  rw [List.getElem?_map, List.getElem?_range h]
  rfl
theorem tally_snoc (ks : List Int) {k : Nat} {x : Int} (hk : k < 6) (hx : (tally ks)[k]? = some x) : tally (ks ++ [(k : Int)]) = (tally ks).set k (x + 1) := by
  rw [tally_get ks hk] at hx
  injection hx with hx
  apply List.ext_getElem?
  intro i
  by_cases hi : i < 6
  · rw [tally_get _ hi, List.getElem?_set, tally_len]
    by_cases h : k = i
    · subst h
      rw [if_pos rfl, if_pos hk, List.countP_append, ← hx]
      simp
    · rw [if_neg h, tally_get _ hi, List.countP_append]
      simp only [Option.some.injEq, List.countP_cons, List.countP_nil]
      rw [if_neg (by simp; omega)]
      simp
  · rw [List.getElem?_eq_none (by rw [tally_len]; omega), List.getElem?_eq_none (by rw [List.length_set, tally_len]; omega)]
theorem tally_bound {ks : List Int} {j : Nat} {x : Int} (h : (tally ks)[j]? = some x) : 0 ≤ x ∧ x ≤ ks.length := by
  have hj : j < 6 := by rw [← tally_len ks]; exact (List.getElem?_eq_some_iff.1 h).1
  rw [tally_get ks hj] at h
  injection h with h
  have := List.countP_le_length (p := fun k => k == (j : Int)) (l := ks)
  omega
theorem tally_nil : tally [] = [0, 0, 0, 0, 0, 0] := rfl
theorem tally_cons (ks : List Int) (f : Int → Int) {k : Int} (h0 : 0 ≤ k) (h5 : k ≤ 5) :
    (tally (k :: ks)).getD 0 0 * f 0 + (tally (k :: ks)).getD 1 0 * f 1 + (tally (k :: ks)).getD 2 0 * f 2 + (tally (k :: ks)).getD 3 0 * f 3 + (tally (k :: ks)).getD 4 0 * f 4 + (tally (k :: ks)).getD 5 0 * f 5 =
    (tally ks).getD 0 0 * f 0 + (tally ks).getD 1 0 * f 1 + (tally ks).getD 2 0 * f 2 + (tally ks).getD 3 0 * f 3 + (tally ks).getD 4 0 * f 4 + (tally ks).getD 5 0 * f 5 + f k := by
  have g : ∀ (l : List Int) (j : Nat), j < 6 → (tally l).getD j 0 = ((l.countP (fun k => k == (j : Int)) : Nat) : Int) := by
    intro l j hj
    rw [List.getD_eq_getElem?_getD, tally_get l hj]
    rfl
  rw [g _ 0 (by omega), g _ 1 (by omega), g _ 2 (by omega), g _ 3 (by omega), g _ 4 (by omega), g _ 5 (by omega), g _ 0 (by omega), g _ 1 (by omega), g _ 2 (by omega), g _ 3 (by omega), g _ 4 (by omega), g _ 5 (by omega)]
  simp only [List.countP_cons]
  rcases (show k = 0 ∨ k = 1 ∨ k = 2 ∨ k = 3 ∨ k = 4 ∨ k = 5 by omega) with rfl | rfl | rfl | rfl | rfl | rfl
  all_goals
    simp [Int.add_mul]
    omega
/-- Each number's weight, as often as it is there. -/
theorem tally_weigh (f : Int → Int) (ks : List Int) (h : ∀ k ∈ ks, 0 ≤ k ∧ k ≤ 5) :
    (tally ks).getD 0 0 * f 0 + (tally ks).getD 1 0 * f 1 + (tally ks).getD 2 0 * f 2 + (tally ks).getD 3 0 * f 3 + (tally ks).getD 4 0 * f 4 + (tally ks).getD 5 0 * f 5 = (ks.map f).sum := by
  induction ks with
  | nil => rw [tally_nil]; simp
  | cons k ks ih =>
    have hk := h k (by simp)
    rw [tally_cons ks f hk.1 hk.2, ih (fun x hx => h x (by simp [hx]))]
    rw [List.map_cons, List.sum_cons]
    omega
/-! Costs. -/
def costKind (k : Int) : Int := if k < 0 ∨ 5 < k then -1 else if k = 0 ∨ k = 5 then 1 else if k = 4 then 4 else 2
def costAll (plan : List Node) : Int := if planValid plan then (plan.map (fun x => costKind x.kind)).sum else -1
theorem costKind_bound {k : Int} (h0 : 0 ≤ k) (h5 : k ≤ 5) : 1 ≤ costKind k ∧ costKind k ≤ 4 := by
  unfold costKind
  rw [if_neg (by omega)]
  repeat' split
  all_goals omega
theorem planValid_kind {plan : List Node} {i : Nat} {nd : Node} (hv : planValid plan = true) (h : plan[i]? = some nd) : 0 ≤ nd.kind ∧ nd.kind ≤ 5 := by
  have h1 := (planValid_node hv h).1
  unfold nodeFits kindValid at h1
  simp only [Bool.and_eq_true, decide_eq_true_eq] at h1
  exact h1.1.1.1
theorem planValid_first {plan : List Node} {nd : Node} (hv : planValid plan = true) (h : plan[0]? = some nd) : nd.kind = 0 := by
  have h1 := (planValid_node hv h).1
  unfold nodeFits kindValid at h1
  simp only [Bool.and_eq_true, decide_eq_true_eq, List.all_eq_true] at h1
  have h2 := h1.1.1.2
  have h3 := h1.1.2
  have h4 : nd.frm = [] := by
    cases hf : nd.frm with
    | nil => rfl
    | cons y ys =>
      have := h3 y (by rw [hf]; simp)
      omega
  rw [h4] at h2
  unfold kindNeeds at h2
  repeat' split at h2
  all_goals simp at h2
  all_goals omega
theorem planValid_kinds {plan : List Node} (hv : planValid plan = true) : ∀ k ∈ plan.map (fun x => x.kind), 0 ≤ k ∧ k ≤ 5 := by
  intro k hk
  obtain ⟨nd, hm, rfl⟩ := List.mem_map.1 hk
  obtain ⟨i, hi⟩ := List.mem_iff_getElem?.1 hm
  exact planValid_kind hv hi
theorem planValid_take {plan : List Node} (hv : planValid plan = true) (k : Nat) : ((plan.take k).map (fun x => costKind x.kind)).sum ≤ 4 * k ∧ 0 ≤ ((plan.take k).map (fun x => costKind x.kind)).sum := by
  induction k with
  | zero => simp
  | succ k ih =>
    cases h : plan[k]? with
    | none =>
      have : plan.length ≤ k := by simpa using h
      have e : plan.take (k + 1) = plan.take k := by rw [List.take_of_length_le (by omega), List.take_of_length_le this]
      rw [e]
      omega
    | some nd =>
      obtain ⟨hk, rfl⟩ := List.getElem?_eq_some_iff.1 h
      have := planValid_kind hv h
      have := costKind_bound this.1 this.2
      rw [List.take_succ_eq_append_getElem hk, List.map_append, List.sum_append, List.map_singleton, List.sum_singleton]
      omega
/-! Levels. -/
def levelNext (out : List Int) (frm : List Int) : Int := frm.foldl (fun n f => max n (out.getD f.toNat 0 + 1)) 0
def levelsTo (plan : List Node) (k : Nat) : List Int := (plan.take k).foldl (fun out x => out ++ [levelNext out x.frm]) []
def levels (plan : List Node) : List Int := levelsTo plan plan.length
theorem levelsTo_succ {plan : List Node} {k : Nat} {nd : Node} (h : plan[k]? = some nd) : levelsTo plan (k + 1) = levelsTo plan k ++ [levelNext (levelsTo plan k) nd.frm] := by
  obtain ⟨hk, rfl⟩ := List.getElem?_eq_some_iff.1 h
  unfold levelsTo
  rw [List.take_succ_eq_append_getElem hk, List.foldl_append]
  rfl
theorem levelsTo_len {plan : List Node} {k : Nat} (h : k ≤ plan.length) : (levelsTo plan k).length = k := by
  induction k with
  | zero => rfl
  | succ k ih =>
    obtain ⟨nd, hx⟩ : ∃ nd, plan[k]? = some nd := ⟨_, List.getElem?_eq_getElem (by omega)⟩
    rw [levelsTo_succ hx, List.length_append, ih (by omega)]
    rfl
theorem levels_len (plan : List Node) : (levels plan).length = plan.length := levelsTo_len (Nat.le_refl _)
theorem levelsTo_pre {plan : List Node} {k m : Nat} (hkm : k ≤ m) (hm : m ≤ plan.length) : (levelsTo plan m).take k = levelsTo plan k := by
  induction m with
  | zero =>
    obtain rfl : k = 0 := by omega
    rfl
  | succ m ih =>
    by_cases h : k = m + 1
    · subst h
      rw [List.take_of_length_le (by rw [levelsTo_len hm]; exact Nat.le_refl _)]
    · obtain ⟨nd, hx⟩ : ∃ nd, plan[m]? = some nd := ⟨_, List.getElem?_eq_getElem (by omega)⟩
      rw [levelsTo_succ hx, List.take_append_of_le_length (by rw [levelsTo_len (by omega)]; omega), ih (by omega) (by omega)]
/-- The level of a node by those of what it needs. -/
def lv (plan : List Node) (i : Nat) : Int := (levels plan).getD i 0
theorem levelsTo_lv {plan : List Node} {k i : Nat} (hk : k ≤ plan.length) (hi : i < k) : (levelsTo plan k).getD i 0 = lv plan i := by
  unfold lv levels
  rw [← levelsTo_pre hk (Nat.le_refl _), List.getD_eq_getElem?_getD, List.getElem?_take, if_pos hi, List.getD_eq_getElem?_getD]
theorem foldl_congr_mem {α β : Type} {f g : β → α → β} {l : List α} (h : ∀ b, ∀ a ∈ l, f b a = g b a) (b : β) : l.foldl f b = l.foldl g b := by
  induction l generalizing b with
  | nil => rfl
  | cons x xs ih => rw [List.foldl_cons, List.foldl_cons, h b x (by simp), ih (fun b a ha => h b a (by simp [ha]))]
theorem lv_eq {plan : List Node} {k : Nat} {nd : Node} (hv : planValid plan = true) (h : plan[k]? = some nd) : lv plan k = nd.frm.foldl (fun n f => max n (lv plan f.toNat + 1)) 0 := by
  have hk := (List.getElem?_eq_some_iff.1 h).1
  have hfit := (planValid_node hv h).1
  have e : lv plan k = levelNext (levelsTo plan k) nd.frm := by
    rw [← levelsTo_lv (k := k + 1) (by omega) (by omega), levelsTo_succ h, List.getD_eq_getElem?_getD, List.getElem?_append_right (by rw [levelsTo_len (by omega)]; omega), levelsTo_len (by omega), Nat.sub_self]
    rfl
  rw [e]
  unfold levelNext
  apply foldl_congr_mem
  intro b a ha
  have := nodeFits_mem hfit ha
  rw [levelsTo_lv (by omega) (by omega)]
theorem maxfold_ge (g : Int → Int) (l : List Int) (b : Int) : b ≤ l.foldl (fun n f => max n (g f)) b ∧ ∀ f ∈ l, g f ≤ l.foldl (fun n f => max n (g f)) b := by
  induction l generalizing b with
  | nil => simp
  | cons x xs ih =>
    rw [List.foldl_cons]
    obtain ⟨h1, h2⟩ := ih (max b (g x))
    refine ⟨by omega, fun f hf => ?_⟩
    rcases List.mem_cons.1 hf with rfl | hf
    · omega
    · exact h2 f hf
theorem maxfold_mem (g : Int → Int) (l : List Int) (b : Int) : l.foldl (fun n f => max n (g f)) b = b ∨ ∃ f ∈ l, l.foldl (fun n f => max n (g f)) b = g f := by
  induction l generalizing b with
  | nil => simp
  | cons x xs ih =>
    rw [List.foldl_cons]
    rcases ih (max b (g x)) with h | ⟨f, hf, h⟩
    · rcases Int.le_total b (g x) with hb | hb
      · right
        exact ⟨x, by simp, by rw [h]; omega⟩
      · left
        rw [h]
        omega
    · exact .inr ⟨f, by simp [hf], h⟩
theorem lv_nonneg {plan : List Node} (hv : planValid plan = true) (k : Nat) : 0 ≤ lv plan k := by
  cases h : plan[k]? with
  | none =>
    unfold lv
    rw [List.getD_eq_getElem?_getD, List.getElem?_eq_none (by rw [levels_len]; simpa using h)]
    simp
  | some nd =>
    rw [lv_eq hv h]
    exact (maxfold_ge _ _ _).1
theorem lv_need {plan : List Node} {k : Nat} {nd : Node} {f : Int} (hv : planValid plan = true) (h : plan[k]? = some nd) (hf : f ∈ nd.frm) : lv plan f.toNat + 1 ≤ lv plan k := by
  rw [lv_eq hv h]
  exact (maxfold_ge (fun f => lv plan f.toNat + 1) nd.frm 0).2 f hf
theorem lv_le {plan : List Node} (hv : planValid plan = true) (k : Nat) : lv plan k ≤ k := by
  induction k using Nat.strongRecOn with
  | ind k ih =>
    cases h : plan[k]? with
    | none =>
      unfold lv
      rw [List.getD_eq_getElem?_getD, List.getElem?_eq_none (by rw [levels_len]; simpa using h)]
      simp
    | some nd =>
      rw [lv_eq hv h]
      rcases maxfold_mem (fun f => lv plan f.toNat + 1) nd.frm 0 with e | ⟨f, hf, e⟩
      · rw [e]
        omega
      · rw [e]
        have := nodeFits_mem (planValid_node hv h).1 hf
        have := ih f.toNat (by omega)
        omega
/-- A node whose level is not 0 needs one of the level below. -/
theorem lv_pred {plan : List Node} {k : Nat} {nd : Node} (hv : planValid plan = true) (h : plan[k]? = some nd) (h0 : lv plan k ≠ 0) : ∃ f ∈ nd.frm, lv plan f.toNat + 1 = lv plan k := by
  rw [lv_eq hv h] at h0 ⊢
  rcases maxfold_mem (fun f => lv plan f.toNat + 1) nd.frm 0 with e | ⟨f, hf, e⟩
  · exact absurd e h0
  · exact ⟨f, hf, e.symm⟩
end Go.Proofs.YtihobnheficpjaaGreatDoor
namespace Go.Proofs.YtihobnheficpjaaGreatDoor
/-- What a node needs, each once, in the order in which it needs them first. -/
def dedup (frm : List Int) : List Nat := frm.foldl (fun l f => if f.toNat ∈ l then l else l ++ [f.toNat]) []
def needsOf (plan : List Node) (i : Nat) : List Nat := match plan[i]? with
  | some nd => dedup nd.frm
  | none => []
def usersOf (plan : List Node) (i : Nat) : List Nat := (List.range plan.length).filter (fun j => decide (i ∈ needsOf plan j))
theorem dedup_gen (frm : List Int) (l : List Nat) : (∀ i, i ∈ frm.foldl (fun l f => if f.toNat ∈ l then l else l ++ [f.toNat]) l ↔ i ∈ l ∨ ∃ f ∈ frm, f.toNat = i) ∧
    (l.Nodup → (frm.foldl (fun l f => if f.toNat ∈ l then l else l ++ [f.toNat]) l).Nodup) ∧ (frm.foldl (fun l f => if f.toNat ∈ l then l else l ++ [f.toNat]) l).length ≤ l.length + frm.length := by
  induction frm generalizing l with
  | nil => simp
  | cons x xs ih =>
    rw [List.foldl_cons]
    by_cases h : x.toNat ∈ l
    · rw [if_pos h]
      obtain ⟨h1, h2, h3⟩ := ih l
      refine ⟨fun i => ?_, h2, by rw [List.length_cons]; omega⟩
      rw [h1 i]
      constructor
      · rintro (hi | ⟨f, hf, e⟩)
        · exact .inl hi
        · exact .inr ⟨f, by simp [hf], e⟩
      · rintro (hi | ⟨f, hf, e⟩)
        · exact .inl hi
        · rcases List.mem_cons.1 hf with rfl | hf
          · exact .inl (e ▸ h)
          · exact .inr ⟨f, hf, e⟩
    · rw [if_neg h]
      obtain ⟨h1, h2, h3⟩ := ih (l ++ [x.toNat])
      refine ⟨fun i => ?_, fun hn => h2 ?_, by rw [List.length_append] at h3; simp at h3 ⊢; omega⟩
      · rw [h1 i]
        constructor
        · rintro (hi | ⟨f, hf, e⟩)
          · rcases List.mem_append.1 hi with hi | hi
            · exact .inl hi
            · exact .inr ⟨x, by simp, by simp at hi; exact hi.symm⟩
          · exact .inr ⟨f, by simp [hf], e⟩
        · rintro (hi | ⟨f, hf, e⟩)
          · exact .inl (by simp [hi])
          · rcases List.mem_cons.1 hf with rfl | hf
            · exact .inl (by simp [e])
            · exact .inr ⟨f, hf, e⟩
      · rw [List.nodup_append]
        refine ⟨hn, by simp, ?_⟩
        intro a ha b hb e
        simp at hb
        subst hb e
        exact h ha
theorem mem_dedup {frm : List Int} {i : Nat} : i ∈ dedup frm ↔ ∃ f ∈ frm, f.toNat = i := by
  have := (dedup_gen frm []).1 i
  unfold dedup
  rw [this]
  simp
theorem dedup_nodup (frm : List Int) : (dedup frm).Nodup := (dedup_gen frm []).2.1 List.nodup_nil
theorem dedup_len (frm : List Int) : (dedup frm).length ≤ frm.length := by
  have := (dedup_gen frm []).2.2
  unfold dedup
  simpa using this
theorem linkL_needs (n f : Nat) (L : Nat → List Nat) : linkL n f L (2 * n + 1) = if f ∈ L (2 * n + 1) then L (2 * n + 1) else L (2 * n + 1) ++ [f] := by
  unfold linkL
  split
  · rfl
  · rw [upd_other _ _ (by omega), upd_same]
theorem linkL_users (n f i : Nat) (L : Nat → List Nat) : linkL n f L (2 * i + 2) = if f ∉ L (2 * n + 1) ∧ i = f then L (2 * i + 2) ++ [n] else L (2 * i + 2) := by
  unfold linkL
  by_cases h : f ∈ L (2 * n + 1)
  · rw [if_pos h, if_neg (fun h2 => h2.1 h)]
  · rw [if_neg h]
    by_cases hi : i = f
    · subst hi
      rw [upd_same, if_pos ⟨h, rfl⟩]
    · rw [upd_other _ _ (by omega), upd_other _ _ (by omega), if_neg (fun h2 => hi h2.2)]
theorem linkL_far (n f a : Nat) (L : Nat → List Nat) (h1 : a ≠ 2 * n + 1) (h2 : a ≠ 2 * f + 2) : linkL n f L a = L a := by
  unfold linkL
  split
  · rfl
  · rw [upd_other _ _ h2, upd_other _ _ h1]
theorem linkAll_needs (n : Nat) (frm : List Int) (L : Nat → List Nat) (hf : ∀ y ∈ frm, 0 ≤ y ∧ y < (n : Int)) :
    linkAll n frm L (2 * n + 1) = frm.foldl (fun l f => if f.toNat ∈ l then l else l ++ [f.toNat]) (L (2 * n + 1)) := by
  unfold linkAll
  induction frm generalizing L with
  | nil => rfl
  | cons x xs ih =>
    have hx := hf x (by simp)
    rw [List.foldl_cons, List.foldl_cons, ih _ (fun y hy => hf y (by simp [hy])), linkL_needs]
theorem linkAll_users (n i : Nat) (frm : List Int) (L : Nat → List Nat) (hf : ∀ y ∈ frm, 0 ≤ y ∧ y < (n : Int)) :
    linkAll n frm L (2 * i + 2) = if i ∉ L (2 * n + 1) ∧ (∃ f ∈ frm, f.toNat = i) then L (2 * i + 2) ++ [n] else L (2 * i + 2) := by
  unfold linkAll
  induction frm generalizing L with
  | nil => simp
  | cons x xs ih =>
    have hx := hf x (by simp)
    rw [List.foldl_cons, ih _ (fun y hy => hf y (by simp [hy])), linkL_needs, linkL_users]
    by_cases hix : i = x.toNat
    · subst hix
      by_cases hm : x.toNat ∈ L (2 * n + 1)
      · simp [hm]
      · rw [if_neg hm, if_neg (by simp), if_pos ⟨hm, rfl⟩, if_pos ⟨hm, x, by simp, rfl⟩]
    · have hne : ¬ (x.toNat ∉ L (2 * n + 1) ∧ i = x.toNat) := fun h => hix h.2
      rw [if_neg hne]
      have e2 : (i ∉ (if x.toNat ∈ L (2 * n + 1) then L (2 * n + 1) else L (2 * n + 1) ++ [x.toNat])) ↔ i ∉ L (2 * n + 1) := by
        split
        · exact Iff.rfl
        · simp [hix]
      have e3 : (∃ f ∈ x :: xs, f.toNat = i) ↔ ∃ f ∈ xs, f.toNat = i := by
        constructor
        · rintro ⟨f, hf, he⟩
          rcases List.mem_cons.1 hf with hfx | hf
          · rw [hfx] at he
            exact absurd he.symm hix
          · exact ⟨f, hf, he⟩
        · rintro ⟨f, hf, e⟩
          exact ⟨f, by simp [hf], e⟩
      simp only [e2, e3]
theorem linkAll_far (n a : Nat) (frm : List Int) (L : Nat → List Nat) (h1 : a ≠ 2 * n + 1) (h2 : ∀ f ∈ frm, a ≠ 2 * f.toNat + 2) : linkAll n frm L a = L a := by
  unfold linkAll
  induction frm generalizing L with
  | nil => rfl
  | cons x xs ih => rw [List.foldl_cons, ih _ (fun f hf => h2 f (by simp [hf])), linkL_far _ _ _ _ h1 (h2 x (by simp))]
theorem needsOf_some {plan : List Node} {i : Nat} {nd : Node} (h : plan[i]? = some nd) : needsOf plan i = dedup nd.frm := by
  unfold needsOf
  rw [h]
theorem needsOf_lt {plan : List Node} (hv : planValid plan = true) {i j : Nat} (h : i ∈ needsOf plan j) : i < j ∧ j < plan.length := by
  cases hx : plan[j]? with
  | none => unfold needsOf at h; rw [hx] at h; simp at h
  | some nd =>
    rw [needsOf_some hx] at h
    obtain ⟨f, hf, rfl⟩ := mem_dedup.1 h
    have := nodeFits_mem (planValid_node hv hx).1 hf
    exact ⟨by omega, (List.getElem?_eq_some_iff.1 hx).1⟩
theorem needsOf_nodup (plan : List Node) (j : Nat) : (needsOf plan j).Nodup := by
  unfold needsOf
  split
  · exact dedup_nodup _
  · exact List.nodup_nil
theorem graphTo_rows {plan : List Node} (hv : planValid plan = true) {k : Nat} (hk : k ≤ plan.length) :
    (∀ i, graphTo plan k (2 * i + 1) = if i < k then needsOf plan i else []) ∧ (∀ i, graphTo plan k (2 * i + 2) = (List.range k).filter (fun j => decide (i ∈ needsOf plan j))) := by
  induction k with
  | zero => exact ⟨fun i => rfl, fun i => rfl⟩
  | succ k ih =>
    obtain ⟨ih1, ih2⟩ := ih (by omega)
    obtain ⟨nd, hx⟩ : ∃ nd, plan[k]? = some nd := ⟨_, List.getElem?_eq_getElem (by omega)⟩
    have hf : ∀ y ∈ nd.frm, 0 ≤ y ∧ y < (k : Int) := fun y hy => nodeFits_mem (planValid_node hv hx).1 hy
    have h0 : graphTo plan k (2 * k + 1) = [] := by rw [ih1 k, if_neg (by omega)]
    constructor
    · intro i
      rw [graphTo_succ hx]
      unfold graphStep
      rw [upd_other _ _ (by omega)]
      by_cases hik : i = k
      · subst hik
        rw [if_pos (by omega), linkAll_needs _ _ _ hf, h0, needsOf_some hx]
        rfl
      · rw [linkAll_far _ _ _ _ (by simp; omega) (fun f _ => by omega), ih1 i]
        by_cases h : i < k
        · rw [if_pos h, if_pos (by omega)]
        · rw [if_neg h, if_neg (by omega)]
    · intro i
      rw [graphTo_succ hx]
      unfold graphStep
      rw [upd_other _ _ (by omega), linkAll_users _ _ _ _ hf, h0, ih2 i, List.range_succ, List.filter_append]
      have e : (∃ f ∈ nd.frm, f.toNat = i) ↔ i ∈ needsOf plan k := by rw [needsOf_some hx, mem_dedup]
      by_cases h : i ∈ needsOf plan k
      · rw [if_pos ⟨by simp, e.2 h⟩]
        simp [h]
      · rw [if_neg (fun h2 => h (e.1 h2.2))]
        simp [h]
theorem graphL_needs {plan : List Node} (hv : planValid plan = true) {i : Nat} (hi : i < plan.length) : graphL plan (2 * i + 1) = needsOf plan i := by
  unfold graphL
  rw [(graphTo_rows hv (Nat.le_refl _)).1 i, if_pos hi]
theorem graphL_users {plan : List Node} (hv : planValid plan = true) (i : Nat) : graphL plan (2 * i + 2) = usersOf plan i := by
  unfold graphL
  exact (graphTo_rows hv (Nat.le_refl _)).2 i
theorem mem_usersOf {plan : List Node} {i j : Nat} : j ∈ usersOf plan i ↔ j < plan.length ∧ i ∈ needsOf plan j := by
  unfold usersOf
  simp
theorem usersOf_nodup (plan : List Node) (i : Nat) : (usersOf plan i).Nodup := List.Pairwise.filter _ List.nodup_range
theorem usersOf_len (plan : List Node) (i : Nat) : (usersOf plan i).length ≤ plan.length := by
  have := List.length_filter_le (fun j => decide (i ∈ needsOf plan j)) (List.range plan.length)
  unfold usersOf
  simpa using this

/-! The queue. -/
/-- A node's level by what has been taken into account of what it needs. -/
def IsMaxOf (S : Nat → Prop) (g : Nat → Int) (v : Int) : Prop := (0 ≤ v ∧ ∀ i, S i → g i + 1 ≤ v) ∧ (v = 0 ∨ ∃ i, S i ∧ v = g i + 1)
theorem IsMaxOf.unique {S : Nat → Prop} {g : Nat → Int} {u v : Int} (h : IsMaxOf S g u) (k : IsMaxOf S g v) : u = v := by
  obtain ⟨⟨h1, h2⟩, h3⟩ := h
  obtain ⟨⟨k1, k2⟩, k3⟩ := k
  rcases h3 with h3 | ⟨i, hi, h3⟩
  · rcases k3 with k3 | ⟨j, hj, k3⟩
    · omega
    · have := h2 j hj
      omega
  · have := k2 i hi
    rcases k3 with k3 | ⟨j, hj, k3⟩
    · omega
    · have := h2 j hj
      omega
theorem lv_isMax {plan : List Node} (hv : planValid plan = true) {j : Nat} (hj : j < plan.length) : IsMaxOf (fun i => i ∈ needsOf plan j) (lv plan) (lv plan j) := by
  have hx : plan[j]? = some plan[j] := List.getElem?_eq_getElem hj
  refine ⟨⟨lv_nonneg hv j, fun i hi => ?_⟩, ?_⟩
  · rw [needsOf_some hx] at hi
    obtain ⟨f, hf, rfl⟩ := mem_dedup.1 hi
    exact lv_need hv hx hf
  · by_cases h0 : lv plan j = 0
    · exact .inl h0
    · obtain ⟨f, hf, e⟩ := lv_pred hv hx h0
      exact .inr ⟨f.toNat, by rw [needsOf_some hx]; exact mem_dedup.2 ⟨f, hf, rfl⟩, e.symm⟩
/-- What holds while nodes are taken: 'P i j': i has been taken into account for j; 'order': the nodes taken so far; 'q': those that wait. -/
structure QInv (plan : List Node) (P : Nat → Nat → Bool) (order q : List Nat) (lev lf : List Int) : Prop where
  nd : (order ++ q).Nodup
  lt : ∀ j ∈ order ++ q, j < plan.length
  ll : lev.length = plan.length
  fl : lf.length = plan.length
  left : ∀ j, j < plan.length → lf[j]? = some (((needsOf plan j).countP (fun i => !P i j) : Nat) : Int)
  lev : ∀ j, j < plan.length → ∃ v, lev[j]? = some v ∧ IsMaxOf (fun i => i ∈ needsOf plan j ∧ P i j = true) (lv plan) v
  all : ∀ j, j < plan.length → (j ∈ order ++ q ↔ ∀ i ∈ needsOf plan j, P i j = true)
theorem QInv.lev_of {plan : List Node} {P : Nat → Nat → Bool} {order q : List Nat} {lev lf : List Int} (h : QInv plan P order q lev lf) (hv : planValid plan = true) {j : Nat} (hj : j ∈ order ++ q) : lev[j]? = some (lv plan j) := by
  have hlt := h.lt j hj
  obtain ⟨v, h1, h2⟩ := h.lev j hlt
  have h3 := (h.all j hlt).1 hj
  have e : IsMaxOf (fun i => i ∈ needsOf plan j) (lv plan) v := by
    refine ⟨⟨h2.1.1, fun i hi => h2.1.2 i ⟨hi, h3 i hi⟩⟩, ?_⟩
    rcases h2.2 with h4 | ⟨i, ⟨hi, _⟩, h4⟩
    · exact .inl h4
    · exact .inr ⟨i, hi, h4⟩
  rw [h1, e.unique (lv_isMax hv hlt)]
theorem nodup_len_le {l : List Nat} {n : Nat} (h : l.Nodup) (hl : ∀ x ∈ l, x < n) : l.length ≤ n := by
  induction n generalizing l with
  | zero =>
    cases l with
    | nil => simp
    | cons x xs => exact absurd (hl x (by simp)) (by omega)
  | succ n ih =>
    by_cases hn : n ∈ l
    · have h1 := ih (h.erase n) (fun x hx => by
        have h2 := (h.mem_erase_iff).1 hx
        have := hl x h2.2
        omega)
      rw [List.length_erase_of_mem hn] at h1
      omega
    · have := ih h (fun x hx => by
        have := hl x hx
        have : x ≠ n := fun e => hn (e ▸ hx)
        omega)
      omega
theorem QInv.len {plan : List Node} {P : Nat → Nat → Bool} {order q : List Nat} {lev lf : List Int} (h : QInv plan P order q lev lf) : order.length + q.length ≤ plan.length := by
  have := nodup_len_le h.nd h.lt
  rw [List.length_append] at this
  exact this
/-- At the end of the queue all nodes have been taken. -/
theorem QInv.done {plan : List Node} {P : Nat → Nat → Bool} {order : List Nat} {lev lf : List Int} (h : QInv plan P order [] lev lf) (hv : planValid plan = true) (hP : ∀ i ∈ order, ∀ j, i ∈ needsOf plan j → P i j = true) : lev = levels plan := by
  have key : ∀ j, j < plan.length → j ∈ order := by
    intro j
    induction j using Nat.strongRecOn with
    | ind j ih =>
      intro hj
      have := (h.all j hj).2 (fun i hi => by
        have hlt := needsOf_lt hv hi
        exact hP i (ih i hlt.1 (by omega)) j hi)
      simpa using this
  apply List.ext_getElem?
  intro j
  by_cases hj : j < plan.length
  · rw [h.lev_of hv (by simp [key j hj])]
    unfold lv
    rw [List.getD_eq_getElem?_getD, List.getElem?_eq_getElem (by rw [levels_len]; exact hj)]
    rfl
  · rw [List.getElem?_eq_none (by rw [h.ll]; omega), List.getElem?_eq_none (by rw [levels_len]; omega)]
/-- A node is taken from the queue. -/
theorem QInv.take {plan : List Node} {P : Nat → Nat → Bool} {order q : List Nat} {x : Nat} {lev lf : List Int} (h : QInv plan P order (x :: q) lev lf) : QInv plan P (order ++ [x]) q lev lf := by
  have e : order ++ x :: q = order ++ [x] ++ q := by simp
  exact ⟨e ▸ h.nd, e ▸ h.lt, h.ll, h.fl, h.left, h.lev, fun j hj => e ▸ h.all j hj⟩
/-- A node that has been taken is taken into account for one that needs it. -/
def putP (P : Nat → Nat → Bool) (x u : Nat) : Nat → Nat → Bool := fun i j => P i j || (decide (i = x) && decide (j = u))
theorem countP_drop {l : List Nat} (hn : l.Nodup) {x : Nat} (hx : x ∈ l) {p p' : Nat → Bool} (h1 : p x = true) (h2 : p' x = false) (h3 : ∀ i, i ≠ x → p' i = p i) : l.countP p = l.countP p' + 1 := by
  induction l with
  | nil => simp at hx
  | cons y ys ih =>
    have hn' := List.nodup_cons.1 hn
    by_cases hy : y = x
    · subst hy
      rw [List.countP_cons_of_pos h1, List.countP_cons_of_neg (by simp [h2])]
      congr 1
      apply List.countP_congr
      intro i hi
      rw [h3 i (fun e => hn'.1 (e ▸ hi))]
    · have hx' : x ∈ ys := by
        rcases List.mem_cons.1 hx with e | e
        · exact absurd e.symm hy
        · exact e
      rw [List.countP_cons, List.countP_cons, ih hn'.2 hx', h3 y hy]
      omega
theorem QInv.step {plan : List Node} {P : Nat → Nat → Bool} {order q : List Nat} {x u : Nat} {lev lf : List Int} (h : QInv plan P order q lev lf) (hv : planValid plan = true) (hxu : x ∈ needsOf plan u) (hP : P x u = false) (hx : x ∈ order) :
    ∃ a b, lev[u]? = some a ∧ lf[u]? = some b ∧ lev[x]? = some (lv plan x) ∧ 0 ≤ a ∧ a ≤ u ∧ 1 ≤ b ∧ b ≤ 10 ∧ 0 ≤ lv plan x ∧ lv plan x ≤ x ∧
      QInv plan (putP P x u) order (if b - 1 = 0 then q ++ [u] else q) (lev.set u (max a (lv plan x + 1))) (lf.set u (b - 1)) := by
  obtain ⟨hxu1, hu⟩ := needsOf_lt hv hxu
  obtain ⟨a, ha, hma⟩ := h.lev u hu
  have hlx := h.lev_of hv (j := x) (by simp [hx])
  have hb := h.left u hu
  have hcd : (needsOf plan u).countP (fun i => !P i u) = (needsOf plan u).countP (fun i => !putP P x u i u) + 1 := by
    refine countP_drop (needsOf_nodup plan u) hxu (by simp [hP]) (by simp [putP]) (fun i hi => ?_)
    simp [putP, hi]
  have hca : a ≤ u := by
    rcases hma.2 with h0 | ⟨i, ⟨hi, _⟩, e⟩
    · omega
    · have := lv_le hv i
      have := (needsOf_lt hv hi).1
      omega
  have hb10 : (needsOf plan u).countP (fun i => !P i u) ≤ 10 := by
    have h1 := List.countP_le_length (p := fun i => !P i u) (l := needsOf plan u)
    have h2 : (needsOf plan u).length ≤ 2 := by
      rw [needsOf_some (List.getElem?_eq_getElem hu)]
      have := dedup_len plan[u].frm
      have := (planValid_node hv (List.getElem?_eq_getElem hu)).2.1
      omega
    omega
  refine ⟨a, _, ha, hb, hlx, hma.1.1, hca, by omega, by omega, lv_nonneg hv x, lv_le hv x, ?_⟩
  have hun : u ∉ order ++ q := fun hm => by
    have := (h.all u hu).1 hm x hxu
    rw [hP] at this
    cases this
  have hb1 : ((((needsOf plan u).countP (fun i => !P i u) : Nat) : Int) - 1 = 0) ↔ ∀ i ∈ needsOf plan u, putP P x u i u = true := by
    rw [hcd]
    constructor
    · intro h0
      have : (needsOf plan u).countP (fun i => !putP P x u i u) = 0 := by omega
      rw [List.countP_eq_zero] at this
      intro i hi
      have := this i hi
      simpa using this
    · intro h0
      have : (needsOf plan u).countP (fun i => !putP P x u i u) = 0 := by
        rw [List.countP_eq_zero]
        intro i hi
        simp [h0 i hi]
      omega
  have hpj : ∀ i j, j ≠ u → putP P x u i j = P i j := by
    intro i j hj
    simp [putP, hj]
  have memq : ∀ j, j ∈ order ++ (if (((needsOf plan u).countP (fun i => !P i u) : Nat) : Int) - 1 = 0 then q ++ [u] else q) ↔ j ∈ order ++ q ∨ (j = u ∧ (((needsOf plan u).countP (fun i => !P i u) : Nat) : Int) - 1 = 0) := by
    intro j
    split
    · rename_i h0
      simp [h0]
      constructor
      · rintro (h1 | h1 | h1)
        · exact .inl (.inl h1)
        · exact .inl (.inr h1)
        · exact .inr h1
      · rintro ((h1 | h1) | h1)
        · exact .inl h1
        · exact .inr (.inl h1)
        · exact .inr (.inr h1)
    · rename_i h0
      simp [h0]
  refine ⟨?_, ?_, by rw [List.length_set]; exact h.ll, by rw [List.length_set]; exact h.fl, ?_, ?_, ?_⟩
  · split
    · rw [← List.append_assoc, List.nodup_append]
      refine ⟨h.nd, by simp, ?_⟩
      intro y hy z hz e
      simp at hz
      subst hz e
      exact hun hy
    · exact h.nd
  · intro j hj
    rcases (memq j).1 hj with h1 | ⟨rfl, _⟩
    · exact h.lt j h1
    · exact hu
  · intro j hj
    by_cases hju : j = u
    · subst hju
      rw [List.getElem?_set_self (by rw [h.fl]; exact hj)]
      congr 1
      omega
    · rw [List.getElem?_set_ne (fun e => hju e.symm), h.left j hj]
      congr 2
      apply List.countP_congr
      intro i _
      rw [hpj i j hju]
  · intro j hj
    by_cases hju : j = u
    · subst hju
      rw [List.getElem?_set_self (by rw [h.ll]; exact hj)]
      refine ⟨_, rfl, ⟨by have := hma.1.1; omega, fun i hi => ?_⟩, ?_⟩
      · by_cases hix : i = x
        · subst hix
          omega
        · have := hma.1.2 i ⟨hi.1, by have := hi.2; simp [putP, hix] at this; exact this⟩
          omega
      · rcases Int.le_total a (lv plan x + 1) with h1 | h1
        · right
          exact ⟨x, ⟨hxu, by simp [putP]⟩, by omega⟩
        · rcases hma.2 with h0 | ⟨i, ⟨hi1, hi2⟩, e⟩
          · left
            have := lv_nonneg hv x
            omega
          · right
            exact ⟨i, ⟨hi1, by simp [putP, hi2]⟩, by omega⟩
    · rw [List.getElem?_set_ne (fun e => hju e.symm)]
      obtain ⟨v, h1, h2⟩ := h.lev j hj
      refine ⟨v, h1, ?_⟩
      have e : (fun i => i ∈ needsOf plan j ∧ putP P x u i j = true) = (fun i => i ∈ needsOf plan j ∧ P i j = true) := by
        funext i
        rw [hpj i j hju]
      rw [e]
      exact h2
  · intro j hj
    rw [memq j]
    by_cases hju : j = u
    · subst hju
      rw [← hb1]
      constructor
      · rintro (h1 | ⟨_, h1⟩)
        · exact absurd h1 hun
        · exact h1
      · intro h1
        exact .inr ⟨rfl, h1⟩
    · have e : (∀ i ∈ needsOf plan j, putP P x u i j = true) ↔ ∀ i ∈ needsOf plan j, P i j = true := by
        constructor
        · intro h1 i hi
          rw [← hpj i j hju]
          exact h1 i hi
        · intro h1 i hi
          rw [hpj i j hju]
          exact h1 i hi
      rw [e, ← h.all j hj]
      constructor
      · rintro (h1 | ⟨h1, _⟩)
        · exact h1
        · exact absurd h1 hju
      · intro h1
        exact .inl h1
/-! The queue's first state. -/
def noneP : Nat → Nat → Bool := fun _ _ => false
def needsLen (plan : List Node) (k : Nat) : List Int := (List.range k).map (fun j => ((needsOf plan j).length : Int))
def firstQ (plan : List Node) (k : Nat) : List Nat := (List.range k).filter (fun j => decide ((needsOf plan j).length = 0))
theorem needsLen_len (plan : List Node) (k : Nat) : (needsLen plan k).length = k := by simp [needsLen]
theorem needsLen_succ (plan : List Node) (k : Nat) : needsLen plan (k + 1) = needsLen plan k ++ [((needsOf plan k).length : Int)] := by
  unfold needsLen
  rw [List.range_succ, List.map_append]
  rfl
theorem firstQ_succ (plan : List Node) (k : Nat) : firstQ plan (k + 1) = firstQ plan k ++ (if (needsOf plan k).length = 0 then [k] else []) := by
  unfold firstQ
  rw [List.range_succ, List.filter_append]
  congr 1
  by_cases h : (needsOf plan k).length = 0
  · simp only [List.filter_cons, List.filter_nil, h, decide_true, if_true]
  · simp only [List.filter_cons, List.filter_nil, h, decide_false, if_false, Bool.false_eq_true]
theorem firstQ_len (plan : List Node) (k : Nat) : (firstQ plan k).length ≤ k := by
  have := List.length_filter_le (fun j => decide ((needsOf plan j).length = 0)) (List.range k)
  unfold firstQ
  simpa using this
theorem QInv.init (plan : List Node) : QInv plan noneP [] (firstQ plan plan.length) (List.replicate plan.length 0) (needsLen plan plan.length) := by
  refine ⟨?_, ?_, by simp, needsLen_len _ _, ?_, ?_, ?_⟩
  · rw [List.nil_append]
    exact List.Pairwise.filter _ List.nodup_range
  · intro j hj
    unfold firstQ at hj
    simp at hj
    exact hj.1
  · intro j hj
    unfold needsLen
    rw [List.getElem?_map, List.getElem?_range hj]
    simp only [Option.map_some]
    congr 2
    rw [List.countP_eq_length.2]
    intro i _
    rfl
  · intro j hj
    refine ⟨0, by rw [List.getElem?_replicate, if_pos hj], ⟨by omega, fun i hi => ?_⟩, .inl rfl⟩
    exact absurd hi.2 (by simp [noneP])
  · intro j hj
    rw [List.nil_append]
    unfold firstQ
    simp only [List.mem_filter, List.mem_range, decide_eq_true_eq]
    constructor
    · rintro ⟨_, h⟩ i hi
      rw [List.eq_nil_of_length_eq_zero h] at hi
      simp at hi
    · intro h
      refine ⟨hj, ?_⟩
      cases hn : needsOf plan j with
      | nil => rfl
      | cons i is =>
        have := h i (by rw [hn]; simp)
        simp [noneP] at this
/-- What has been taken into account when the nodes of 'order' have been taken, and the first t users of x. -/
def sofar (plan : List Node) (order : List Nat) (x t : Nat) : Nat → Nat → Bool := fun i j => decide (i ∈ order) || (decide (i = x) && decide (j ∈ (usersOf plan x).take t))
theorem sofar_step {plan : List Node} {order : List Nat} {x t u : Nat} (hu : (usersOf plan x)[t]? = some u) : sofar plan order x (t + 1) = putP (sofar plan order x t) x u := by
  obtain ⟨ht, rfl⟩ := List.getElem?_eq_some_iff.1 hu
  funext i j
  have e : decide (j ∈ (usersOf plan x).take (t + 1)) = (decide (j ∈ (usersOf plan x).take t) || decide (j = (usersOf plan x)[t])) := by
    rw [List.take_succ_eq_append_getElem ht, Bool.eq_iff_iff]
    simp only [Bool.or_eq_true, decide_eq_true_eq, List.mem_append, List.mem_singleton]
  unfold sofar putP
  rw [e]
  dsimp only
  cases decide (i ∈ order) <;> cases decide (i = x) <;> cases decide (j ∈ (usersOf plan x).take t) <;> rfl
theorem sofar_no {plan : List Node} {order : List Nat} {x t u : Nat} (hx : x ∉ order) (hu : (usersOf plan x)[t]? = some u) : sofar plan order x t x u = false := by
  obtain ⟨ht, rfl⟩ := List.getElem?_eq_some_iff.1 hu
  unfold sofar
  have : (usersOf plan x)[t] ∉ (usersOf plan x).take t := by
    intro hm
    obtain ⟨i, hi, e⟩ := List.mem_take_iff_getElem.1 hm
    have := (List.getElem_inj (usersOf_nodup plan x)).1 e
    omega
  simp [hx, this]
theorem QInv.congr {plan : List Node} {P P' : Nat → Nat → Bool} {order q : List Nat} {lev lf : List Int} (h : QInv plan P order q lev lf) (e : ∀ i j, j < plan.length → i ∈ needsOf plan j → P' i j = P i j) : QInv plan P' order q lev lf := by
  refine ⟨h.nd, h.lt, h.ll, h.fl, fun j hj => ?_, fun j hj => ?_, fun j hj => ?_⟩
  · rw [h.left j hj]
    congr 2
    apply List.countP_congr
    intro i hi
    rw [e i j hj hi]
  · obtain ⟨v, h1, h2⟩ := h.lev j hj
    refine ⟨v, h1, ?_⟩
    have : (fun i => i ∈ needsOf plan j ∧ P' i j = true) = (fun i => i ∈ needsOf plan j ∧ P i j = true) := by
      funext i
      apply propext
      constructor
      · rintro ⟨a, b⟩; exact ⟨a, by rw [← e i j hj a]; exact b⟩
      · rintro ⟨a, b⟩; exact ⟨a, by rw [e i j hj a]; exact b⟩
    rw [this]
    exact h2
  · rw [h.all j hj]
    constructor
    · intro h1 i hi
      rw [e i j hj hi]
      exact h1 i hi
    · intro h1 i hi
      rw [← e i j hj hi]
      exact h1 i hi
/-- The state at the head of the outer loop. -/
def QHead (plan : List Node) (order q : List Nat) (lev lf : List Int) : Prop := QInv plan (fun i _ => decide (i ∈ order)) order q lev lf
theorem QHead.init (plan : List Node) : QHead plan [] (firstQ plan plan.length) (List.replicate plan.length 0) (needsLen plan plan.length) :=
  (QInv.init plan).congr (fun i j _ _ => by simp [noneP])
theorem QHead.begin {plan : List Node} {order q : List Nat} {x : Nat} {lev lf : List Int} (h : QHead plan order (x :: q) lev lf) : x ∉ order ∧ QInv plan (sofar plan order x 0) (order ++ [x]) q lev lf := by
  have h1 : QInv plan (fun i _ => decide (i ∈ order)) order (x :: q) lev lf := h
  refine ⟨?_, (QInv.take h1).congr (fun i j _ _ => by simp [sofar])⟩
  have := h1.nd
  rw [List.nodup_append] at this
  intro hx
  exact this.2.2 x hx x (by simp) rfl
theorem QHead.end_ {plan : List Node} {order q : List Nat} {x : Nat} {lev lf : List Int} (h : QInv plan (sofar plan order x (usersOf plan x).length) (order ++ [x]) q lev lf) : QHead plan (order ++ [x]) q lev lf := by
  refine QInv.congr h (fun i j hj hi => ?_)
  unfold sofar
  rw [List.take_of_length_le (Nat.le_refl _)]
  by_cases h1 : i = x
  · subst h1
    have : j ∈ usersOf plan i := mem_usersOf.2 ⟨hj, hi⟩
    simp [this]
  · simp [h1]
theorem QHead.done {plan : List Node} {order : List Nat} {lev lf : List Int} (h : QHead plan order [] lev lf) (hv : planValid plan = true) : lev = levels plan :=
  QInv.done h hv (fun i hi j _ => by simp [hi])
theorem QHead.len {plan : List Node} {order q : List Nat} {lev lf : List Int} (h : QHead plan order q lev lf) : order.length + q.length ≤ plan.length := QInv.len h
end Go.Proofs.YtihobnheficpjaaGreatDoor
