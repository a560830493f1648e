/- The plain functions on data that the program's functions compute. Conditions: none. -/
namespace Go.Proofs.YthampfkicnakgaaGreatDoor
structure Node where
  kind : Int
  frm : List Int
  row : List Int
def inRow (x : Int) : Bool := decide (0 ≤ x) && decide (x ≤ 1008)
def rowValid (l : List Int) : Bool := l.all inRow && decide (l.length ≤ 6)
def kindValid (k : Int) : Bool := decide (0 ≤ k) && decide (k ≤ 5)
def kindNeeds (k : Int) : Int := if k < 0 ∨ 5 < k then -1 else if k = 0 then 0 else if k = 1 ∨ k = 2 then 2 else 1
theorem kindNeeds_nonneg {k : Int} (h0 : 0 ≤ k) (h5 : k ≤ 5) : 0 ≤ kindNeeds k := by
  unfold kindNeeds
  repeat' split
  all_goals omega
theorem kindNeeds_le (k : Int) : -1 ≤ kindNeeds k ∧ kindNeeds k ≤ 2 := by
  unfold kindNeeds
  repeat' split
  all_goals omega
/-- How many values the first given row has. -/
def wide (plan : List Node) : Nat := match plan.find? (fun x => x.kind == 0) with
  | some x => x.row.length
  | none => 0
/-- Is a node valid at a place of a plan of that width? -/
def nodeOk (x : Node) (at_ : Int) (wd : Nat) : Bool :=
  decide (kindNeeds x.kind = x.frm.length) && rowValid x.row && x.frm.all (fun y => decide (0 ≤ y) && decide (y ≤ at_ - 1)) && (if x.kind = 0 then decide (x.row.length = wd) else decide (x.row.length = 0))
def planValid (plan : List Node) : Bool := plan.zipIdx.all (fun x => nodeOk x.1 x.2 (wide plan)) && decide (plan.length ≤ 10)
def countNeeds (plan : List Node) : Int := if planValid plan then (plan.map (fun x => (x.frm.length : Int))).sum else -1
/-- What impl.nodeFits asks. -/
def nodeFits (x : Node) (at_ : Int) : Bool :=
  kindValid x.kind && decide ((x.frm.length : Int) = kindNeeds x.kind) && x.frm.all (fun y => decide (0 ≤ y) && decide (y < at_)) && (if x.kind = 0 then rowValid x.row else decide (x.row.length = 0))
def upd {α : Type} (f : Nat → α) (a : Nat) (x : α) : Nat → α := fun b => if b = a then x else f b
theorem upd_same {α : Type} (f : Nat → α) (a : Nat) (x : α) : upd f a x a = x := by simp [upd]
theorem upd_other {α : Type} (f : Nat → α) {a b : Nat} (x : α) (h : b ≠ a) : upd f a x b = f b := by simp [upd, h]
/-- The graph's lists: row 0: the nodes; row 2i+1: what node i needs; row 2i+2: who needs it. -/
def linkL (n f : Nat) (L : Nat → List Nat) : Nat → List Nat :=
  if f ∈ L (2 * n + 1) then L else upd (upd L (2 * n + 1) (L (2 * n + 1) ++ [f])) (2 * f + 2) (L (2 * f + 2) ++ [n])
def linkAll (n : Nat) (frm : List Int) (L : Nat → List Nat) : Nat → List Nat := frm.foldl (fun L f => linkL n f.toNat L) L
def graphStep (L : Nat → List Nat) (x : Node × Nat) : Nat → List Nat := upd (linkAll x.2 x.1.frm L) 0 (linkAll x.2 x.1.frm L 0 ++ [x.2])
def graphTo (plan : List Node) (k : Nat) : Nat → List Nat := (plan.zipIdx.take k).foldl graphStep (fun _ => [])
def graphL (plan : List Node) : Nat → List Nat := graphTo plan plan.length
theorem linkL_zero (n f : Nat) (L : Nat → List Nat) : linkL n f L 0 = L 0 := by
  unfold linkL
  split
  · rfl
  · rw [upd_other _ _ (by omega), upd_other _ _ (by omega)]
theorem linkAll_zero (n : Nat) (frm : List Int) (L : Nat → List Nat) : linkAll n frm L 0 = L 0 := by
  unfold linkAll
  induction frm generalizing L with
  | nil => rfl
  | cons x xs ih => rw [List.foldl_cons, ih, linkL_zero]
theorem linkAll_snoc {n m : Nat} {frm : List Int} {x : Int} (L : Nat → List Nat) (h : frm[m]? = some x) : linkAll n (frm.take (m + 1)) L = linkL n x.toNat (linkAll n (frm.take m) L) := by
  obtain ⟨hm, rfl⟩ := List.getElem?_eq_some_iff.1 h
  unfold linkAll
  rw [List.take_succ_eq_append_getElem hm, List.foldl_append]
  rfl
theorem graphTo_succ {plan : List Node} {k : Nat} {nd : Node} (h : plan[k]? = some nd) : graphTo plan (k + 1) = graphStep (graphTo plan k) (nd, k) := by
  have hz : plan.zipIdx[k]? = some (nd, k) := by simp [h]
  obtain ⟨hk, hx⟩ := List.getElem?_eq_some_iff.1 hz
  unfold graphTo
  rw [List.take_succ_eq_append_getElem hk, List.foldl_append, hx]
  rfl
theorem linkL_len (n f : Nat) (L : Nat → List Nat) (a : Nat) : (linkL n f L a).length ≤ (L a).length + 1 := by
  unfold linkL upd
  split
  · omega
  · dsimp only
    split
    · subst_vars; simp
    · split
      · subst_vars; simp
      · omega
/-- Node by node: what the spec asks is what nodeFits asks, and the width of given rows. -/
theorem nodeOk_eq (x : Node) (at_ : Int) (wd : Nat) : nodeOk x at_ wd = (nodeFits x at_ && (if x.kind = 0 then decide (x.row.length = wd) else true)) := by
  rw [Bool.eq_iff_iff]
  unfold nodeOk nodeFits
  simp only [Bool.and_eq_true, decide_eq_true_eq, List.all_eq_true]
  constructor
  · rintro ⟨⟨⟨h1, h2⟩, h3⟩, h4⟩
    refine ⟨⟨⟨⟨?_, h1.symm⟩, fun y hy => ⟨(h3 y hy).1, by have := (h3 y hy).2; omega⟩⟩, ?_⟩, ?_⟩
    · have : 0 ≤ kindNeeds x.kind := by omega
      unfold kindNeeds at this
      unfold kindValid
      split at this
      · omega
      · simp; omega
    · split
      · exact h2
      · rename_i hk; rw [if_neg hk] at h4; exact h4
    · split
      · rename_i hk; rw [if_pos hk] at h4; exact h4
      · rfl
  · rintro ⟨⟨⟨⟨h0, h1⟩, h3⟩, h4⟩, h5⟩
    refine ⟨⟨⟨h1.symm, ?_⟩, fun y hy => ⟨(h3 y hy).1, by have := (h3 y hy).2; omega⟩⟩, ?_⟩
    · split at h4
      · exact h4
      · have e : x.row = [] := List.eq_nil_of_length_eq_zero (by simpa using h4)
        rw [e]
        rfl
    · split
      · rename_i hk; rw [if_pos hk] at h5; exact h5
      · rename_i hk; rw [if_neg hk] at h4; exact h4
theorem nodeFits_len {x : Node} {at_ : Int} (h : nodeFits x at_ = true) : x.frm.length ≤ 2 := by
  unfold nodeFits at h
  simp only [Bool.and_eq_true, decide_eq_true_eq] at h
  have := (kindNeeds_le x.kind).2
  omega
theorem nodeFits_mem {x : Node} {at_ y : Int} (h : nodeFits x at_ = true) (hy : y ∈ x.frm) : 0 ≤ y ∧ y < at_ := by
  unfold nodeFits at h
  simp only [Bool.and_eq_true, decide_eq_true_eq, List.all_eq_true] at h
  exact h.1.2 y hy
theorem wide_first {plan : List Node} {k : Nat} {nd : Node} (h : plan[k]? = some nd) (hk : nd.kind = 0) (ha : (plan.take k).any (fun x => x.kind == 0) = false) : wide plan = nd.row.length := by
  have : plan.find? (fun x => x.kind == 0) = some nd := by
    rw [List.find?_eq_some_iff_getElem]
    obtain ⟨hk', hx'⟩ := List.getElem?_eq_some_iff.1 h
    refine ⟨by simp [hk], k, hk', hx', fun j hj => ?_⟩
    have := List.any_eq_false.1 ha plan[j] (List.mem_take_iff_getElem.2 ⟨j, by omega, rfl⟩)
    simpa using this
  unfold wide
  rw [this]
def widthTo (plan : List Node) (k : Nat) : Int := if (plan.take k).any (fun x => x.kind == 0) then (wide plan : Int) else -1
theorem widthTo_fixed {plan : List Node} {k : Nat} {nd : Node} (h : plan[k]? = some nd) (hk : nd.kind = 0) : widthTo plan (k + 1) = wide plan := by
  obtain ⟨hl, rfl⟩ := List.getElem?_eq_some_iff.1 h
  unfold widthTo
  rw [List.take_succ_eq_append_getElem hl, List.any_append, if_pos (by simp [hk])]
theorem widthTo_other {plan : List Node} {k : Nat} {nd : Node} (h : plan[k]? = some nd) (hk : nd.kind ≠ 0) : widthTo plan (k + 1) = widthTo plan k := by
  obtain ⟨hl, rfl⟩ := List.getElem?_eq_some_iff.1 h
  unfold widthTo
  rw [List.take_succ_eq_append_getElem hl, List.any_append]
  have : ([plan[k]].any fun x => x.kind == 0) = false := by simp [hk]
  rw [this, Bool.or_false]
theorem planValid_bad {plan : List Node} {k : Nat} {nd : Node} (h : plan[k]? = some nd) (hb : nodeOk nd k (wide plan) = false) : planValid plan = false := by
  have : plan.zipIdx.all (fun x => nodeOk x.1 x.2 (wide plan)) = false := by
    rw [List.all_eq_false]
    exact ⟨(nd, k), List.mem_of_getElem? (show plan.zipIdx[k]? = some (nd, k) by simp [h]), by simp [hb]⟩
  unfold planValid
  rw [this]
  rfl
/-- How many nodes node i needs. -/
def fl (plan : List Node) (i : Nat) : Int := match plan[i]? with
  | some nd => nd.frm.length
  | none => 0
theorem planValid_node {plan : List Node} {i : Nat} {nd : Node} (hv : planValid plan = true) (h : plan[i]? = some nd) : nodeFits nd i = true ∧ nd.frm.length ≤ 2 ∧ i < 10 ∧ (nd.kind = 0 → nd.row.length = wide plan) := by
  unfold planValid at hv
  simp only [Bool.and_eq_true, decide_eq_true_eq] at hv
  have h1 := List.all_eq_true.1 hv.1 (nd, i) (List.mem_of_getElem? (show plan.zipIdx[i]? = some (nd, i) by simp [h]))
  rw [nodeOk_eq] at h1
  simp only [Bool.and_eq_true] at h1
  refine ⟨h1.1, nodeFits_len h1.1, ?_, fun hk => ?_⟩
  · have := (List.getElem?_eq_some_iff.1 h).1
    omega
  · have := h1.2
    rw [if_pos hk] at this
    simpa using this
theorem planValid_len {plan : List Node} (hv : planValid plan = true) : plan.length ≤ 10 := by
  unfold planValid at hv
  simp only [Bool.and_eq_true, decide_eq_true_eq] at hv
  exact hv.2
theorem fl_bound {plan : List Node} (hv : planValid plan = true) (i : Nat) : 0 ≤ fl plan i ∧ fl plan i ≤ 2 := by
  unfold fl
  split
  · rename_i nd h
    have := (planValid_node hv h).2.1
    omega
  · omega
theorem fl_sum {plan : List Node} (hv : planValid plan = true) {n : Nat} (pre : List (Fin n)) : 0 ≤ (pre.map (fun i => fl plan i.1)).sum ∧ (pre.map (fun i => fl plan i.1)).sum ≤ 2 * pre.length := by
  induction pre with
  | nil => simp
  | cons x xs ih =>
    have := fl_bound hv x.1
    simp only [List.map_cons, List.sum_cons, List.length_cons]
    omega
theorem fl_all {plan : List Node} {n : Nat} (hn : n = plan.length) : ((List.finRange n).map (fun i => fl plan i.1)).sum = (plan.map (fun x => (x.frm.length : Int))).sum := by
  subst hn
  congr 1
  apply List.ext_getElem
  · simp
  · intro i h1 h2
    simp [fl]
end Go.Proofs.YthampfkicnakgaaGreatDoor
