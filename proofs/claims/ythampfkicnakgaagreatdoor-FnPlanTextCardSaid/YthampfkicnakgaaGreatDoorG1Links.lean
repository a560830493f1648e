/- Plain facts on a plan's links: how many there are. Conditions: none. -/
import Derived.Test.YthampfkicnakgaaGreatDoorE1Draw
namespace Go.Proofs.YthampfkicnakgaaGreatDoor
open Go.RowKit

/-- How many users the first N nodes have. -/
def ulen (N : Nat) (L : Nat → List Nat) : Nat := ((List.range N).map (fun i => (L (2 * i + 2)).length)).sum
theorem ulen_succ (N : Nat) (L : Nat → List Nat) : ulen (N + 1) L = ulen N L + (L (2 * N + 2)).length := by
  unfold ulen
  rw [List.range_succ, List.map_append, List.sum_append]
  simp
theorem ulen_other {N : Nat} {L L' : Nat → List Nat} (h : ∀ i, i < N → L' (2 * i + 2) = L (2 * i + 2)) : ulen N L' = ulen N L := by
  induction N with
  | zero => rfl
  | succ N ih => rw [ulen_succ, ulen_succ, ih (fun i hi => h i (by omega)), h N (by omega)]
theorem ulen_upd {N f : Nat} {L : Nat → List Nat} {x : List Nat} (hf : f < N) (hx : x.length = (L (2 * f + 2)).length + 1) : ulen N (upd L (2 * f + 2) x) = ulen N L + 1 := by
  induction N with
  | zero => omega
  | succ N ih =>
    rw [ulen_succ, ulen_succ]
    by_cases h : f = N
    · subst h
      rw [upd_same, hx, ulen_other (fun i hi => upd_other _ _ (by omega))]
      omega
    · rw [upd_other _ _ (by omega), ih (by omega)]
      omega
theorem linkL_ulen {N n f : Nat} (L : Nat → List Nat) (hf : f < N) : ulen N (linkL n f L) = ulen N L + (if f ∈ L (2 * n + 1) then 0 else 1) := by
  unfold linkL
  split
  · rfl
  · rw [ulen_upd hf (by rw [List.length_append, upd_other _ _ (by omega)]; rfl), ulen_other (fun i hi => upd_other _ _ (by omega))]
theorem linkL_row {n f a : Nat} (L : Nat → List Nat) (h1 : a ≠ 2 * n + 1) (h2 : a ≠ 2 * f + 2) : linkL n f L a = L a := by
  unfold linkL
  split
  · rfl
  · rw [upd_other _ _ h2, upd_other _ _ h1]
theorem linkAll_row {n a : Nat} {frm : List Int} (L : Nat → List Nat) (hf : ∀ y ∈ frm, 0 ≤ y ∧ y < (n : Int)) (h1 : 2 * n + 1 < a) : linkAll n frm L a = L a := by
  unfold linkAll
  induction frm generalizing L with
  | nil => rfl
  | cons x xs ih =>
    have hx := hf x (by simp)
    rw [List.foldl_cons, ih _ (fun y hy => hf y (by simp [hy])), linkL_row _ (by omega) (by omega)]
/-- Behind step k the rows from 2k+1 on are empty. -/
theorem graphTo_rest {plan : List Node} (hv : planValid plan = true) (k : Nat) : ∀ a, 2 * k + 1 ≤ a → graphTo plan k a = [] := by
  induction k with
  | zero => intro a _; rfl
  | succ k ih =>
    intro a ha
    cases h : plan[k]? with
    | none =>
      have hl : plan.length ≤ k := by simpa using h
      have e : graphTo plan (k + 1) = graphTo plan k := by
        unfold graphTo
        rw [List.take_of_length_le (by simp; omega), List.take_of_length_le (by simp; omega)]
      rw [e]
      exact ih a (by omega)
    | some nd =>
      rw [graphTo_succ h]
      unfold graphStep
      rw [upd_other _ _ (by omega)]
      have hfit := (planValid_node hv h).1
      rw [linkAll_row _ (fun y hy => nodeFits_mem hfit hy) (by omega)]
      exact ih a (by omega)
theorem linkAll_ulen {N n : Nat} {frm : List Int} (L : Nat → List Nat) (hf : ∀ y ∈ frm, 0 ≤ y ∧ y < (n : Int)) (hn : n < N) (hl : frm.length ≤ 2) (h0 : L (2 * n + 1) = []) :
    ulen N L ≤ ulen N (linkAll n frm L) ∧ ulen N (linkAll n frm L) - ulen N L ≤ frm.length ∧ frm.length ≤ 2 * (ulen N (linkAll n frm L) - ulen N L) := by
  match frm, hl with
  | [], _ => simp [linkAll]
  | [x], _ =>
    have hx := hf x (by simp)
    show ulen N L ≤ ulen N (linkL n x.toNat L) ∧ _
    have e := linkL_ulen (n := n) L (show x.toNat < N by omega)
    rw [h0] at e
    simp only [List.not_mem_nil, if_false] at e
    show _ ∧ ulen N (linkL n x.toNat L) - ulen N L ≤ _ ∧ _ ≤ 2 * (ulen N (linkL n x.toNat L) - ulen N L)
    simp only [List.length_cons, List.length_nil]
    omega
  | [x, y], _ =>
    have hx := hf x (by simp)
    have hy := hf y (by simp)
    have e := linkL_ulen (n := n) L (show x.toNat < N by omega)
    have e2 := linkL_ulen (n := n) (linkL n x.toNat L) (show y.toNat < N by omega)
    rw [h0] at e
    simp only [List.not_mem_nil, if_false] at e
    show ulen N L ≤ ulen N (linkL n y.toNat (linkL n x.toNat L)) ∧ ulen N (linkL n y.toNat (linkL n x.toNat L)) - ulen N L ≤ _ ∧ _ ≤ 2 * (ulen N (linkL n y.toNat (linkL n x.toNat L)) - ulen N L)
    simp only [List.length_cons, List.length_nil]
    split at e2 <;> omega
theorem graphTo_ulen {plan : List Node} (hv : planValid plan = true) {k : Nat} (hk : k ≤ plan.length) : (ulen plan.length (graphTo plan k) : Int) ≤ fsum plan k ∧ fsum plan k ≤ 2 * ulen plan.length (graphTo plan k) := by
  induction k with
  | zero =>
    have e : ∀ N, ulen N (fun _ => []) = 0 := by
      intro N
      induction N with
      | zero => rfl
      | succ N ih => rw [ulen_succ, ih]; rfl
    show ((ulen plan.length (fun _ => []) : Nat) : Int) ≤ fsum plan 0 ∧ fsum plan 0 ≤ 2 * (ulen plan.length (fun _ => []) : Nat)
    rw [e]
    simp [fsum]
  | succ k ih =>
    obtain ⟨h1, h2⟩ := ih (by omega)
    obtain ⟨nd, h⟩ : ∃ nd, plan[k]? = some nd := ⟨_, List.getElem?_eq_getElem (by omega)⟩
    have hfit := planValid_node hv h
    have e := linkAll_ulen (N := plan.length) (n := k) (graphTo plan k) (fun y hy => nodeFits_mem hfit.1 hy) (by omega) hfit.2.1 (graphTo_rest hv k _ (by omega))
    rw [graphTo_succ h, fsum_succ h]
    have e2 : ulen plan.length (graphStep (graphTo plan k) (nd, k)) = ulen plan.length (linkAll k nd.frm (graphTo plan k)) := ulen_other (fun i hi => upd_other _ _ (by omega))
    rw [e2]
    omega
theorem graphTo_zero {plan : List Node} {k : Nat} (hk : k ≤ plan.length) : graphTo plan k 0 = List.range k := by
  induction k with
  | zero => rfl
  | succ k ih =>
    obtain ⟨nd, h⟩ : ∃ nd, plan[k]? = some nd := ⟨_, List.getElem?_eq_getElem (by omega)⟩
    rw [graphTo_succ h]
    unfold graphStep
    rw [upd_same, linkAll_zero, ih (by omega), List.range_succ]
end Go.Proofs.YthampfkicnakgaaGreatDoor
