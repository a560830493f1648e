/- Plain facts on sorting by insertion and turning in place. Conditions: none. -/
import Derived.Test.YthampfkicnakgaaGreatDoorA4Vals
namespace Go.Proofs.YthampfkicnakgaaGreatDoor
theorem putRow_at (S : List Int) (x : Int) (j : Nat) (h1 : ∀ y ∈ S.take j, ¬ x < y) (h2 : ∀ y ∈ S.drop j, x < y) : putRow S x = S.take j ++ x :: S.drop j := by
  induction S generalizing j with
  | nil => simp [putRow]
  | cons y ys ih =>
    match j with
    | 0 =>
      have := h2 y (by simp)
      unfold putRow
      rw [if_pos this]
      rfl
    | j + 1 =>
      have := h1 y (by simp)
      unfold putRow
      rw [if_neg this, ih j (fun z hz => h1 z (by simp [hz])) (fun z hz => h2 z (by simpa using hz))]
      rfl
/-- While x = l[i] is moved to its place among the first i ones: it is at place j. -/
def insAt (l : List Int) (i j : Nat) (x : Int) : List Int := (sortRow (l.take i)).take j ++ x :: ((sortRow (l.take i)).drop j ++ l.drop (i + 1))
def sortTo (l : List Int) (i : Nat) : List Int := sortRow (l.take i) ++ l.drop i
theorem sortRow_snoc (l : List Int) (x : Int) : sortRow (l ++ [x]) = putRow (sortRow l) x := by
  unfold sortRow
  rw [List.foldl_append]
  rfl
theorem sortTo_len (l : List Int) (i : Nat) : (sortTo l i).length = l.length := by
  unfold sortTo
  rw [List.length_append, sortRow_len, List.length_take, List.length_drop]
  omega
theorem insAt_len {l : List Int} {i j : Nat} {x : Int} (hi : i < l.length) (hj : j ≤ i) : (insAt l i j x).length = l.length := by
  unfold insAt
  rw [List.length_append, List.length_cons, List.length_append, List.length_take, List.length_drop, List.length_drop, sortRow_len, List.length_take]
  omega
theorem sortTo_zero (l : List Int) : sortTo l 0 = l := by simp [sortTo, sortRow]
theorem sortTo_one (l : List Int) : sortTo l 1 = l := by
  cases l with
  | nil => rfl
  | cons x xs => simp [sortTo, sortRow, putRow]
theorem sortTo_all (l : List Int) {i : Nat} (h : l.length ≤ i) : sortTo l i = sortRow l := by
  unfold sortTo
  rw [List.take_of_length_le h, List.drop_of_length_le h, List.append_nil]
theorem insAt_begin {l : List Int} {i : Nat} {x : Int} (h : l[i]? = some x) : sortTo l i = insAt l i i x := by
  obtain ⟨hi, rfl⟩ := List.getElem?_eq_some_iff.1 h
  have hl : (sortRow (l.take i)).length = i := by rw [sortRow_len, List.length_take]; omega
  unfold sortTo insAt
  rw [List.take_of_length_le (l := sortRow (l.take i)) (by omega), List.drop_of_length_le (l := sortRow (l.take i)) (by omega), List.nil_append, List.drop_eq_getElem_cons hi]
theorem insAt_get {l : List Int} {i j : Nat} {x : Int} (hi : i < l.length) (hj : j ≤ i) : (insAt l i j x)[j]? = some x := by
  have hl : (sortRow (l.take i)).length = i := by rw [sortRow_len, List.length_take]; omega
  unfold insAt
  rw [List.getElem?_append_right (by rw [List.length_take]; omega), List.length_take, show j - min j (sortRow (l.take i)).length = 0 by omega]
  rfl
theorem insAt_prev {l : List Int} {i j : Nat} {x : Int} (hi : i < l.length) (hj : j ≤ i) (h0 : 0 < j) : ∃ y, (insAt l i j x)[j - 1]? = some y ∧ (sortRow (l.take i))[j - 1]? = some y := by
  have hl : (sortRow (l.take i)).length = i := by rw [sortRow_len, List.length_take]; omega
  refine ⟨(sortRow (l.take i))[j - 1], ?_, List.getElem?_eq_getElem (by omega)⟩
  unfold insAt
  rw [List.getElem?_append_left (by rw [List.length_take]; omega), List.getElem?_take, if_pos (by omega)]
  exact List.getElem?_eq_getElem (by omega)
theorem set_swap (P Q : List Int) (y x : Int) : ((P ++ y :: x :: Q).set (P.length + 1) y).set P.length x = P ++ x :: y :: Q := by
  rw [List.set_append_right _ _ (by omega), show P.length + 1 - P.length = 1 by omega, List.set_append_right _ _ (by omega), Nat.sub_self]
  rfl
theorem insAt_swap {l : List Int} {i j : Nat} {x y : Int} (hi : i < l.length) (hj : j ≤ i) (h0 : 0 < j) (hy : (sortRow (l.take i))[j - 1]? = some y) : ((insAt l i j x).set j y).set (j - 1) x = insAt l i (j - 1) x := by
  have hl : (sortRow (l.take i)).length = i := by rw [sortRow_len, List.length_take]; omega
  obtain ⟨k, rfl⟩ : ∃ k, j = k + 1 := ⟨j - 1, by omega⟩
  simp only [Nat.add_sub_cancel] at hy ⊢
  obtain ⟨hk, hy'⟩ := List.getElem?_eq_some_iff.1 hy
  have e1 : insAt l i (k + 1) x = (sortRow (l.take i)).take k ++ y :: x :: ((sortRow (l.take i)).drop (k + 1) ++ l.drop (i + 1)) := by
    unfold insAt
    rw [List.take_succ_eq_append_getElem hk, hy', List.append_assoc]
    rfl
  have e2 : insAt l i k x = (sortRow (l.take i)).take k ++ x :: y :: ((sortRow (l.take i)).drop (k + 1) ++ l.drop (i + 1)) := by
    unfold insAt
    rw [List.drop_eq_getElem_cons hk, hy']
    rfl
  rw [e1, e2]
  have := set_swap ((sortRow (l.take i)).take k) ((sortRow (l.take i)).drop (k + 1) ++ l.drop (i + 1)) y x
  rw [List.length_take, show min k (sortRow (l.take i)).length = k by omega] at this
  exact this
theorem insAt_end {l : List Int} {i j : Nat} {x : Int} (h : l[i]? = some x) (hj : j ≤ i) (h1 : j = 0 ∨ ∃ y, (sortRow (l.take i))[j - 1]? = some y ∧ ¬ x < y) (h2 : ∀ y ∈ (sortRow (l.take i)).drop j, x < y) : insAt l i j x = sortTo l (i + 1) := by
  obtain ⟨hi, hx⟩ := List.getElem?_eq_some_iff.1 h
  have hl : (sortRow (l.take i)).length = i := by rw [sortRow_len, List.length_take]; omega
  have hs := sortRow_sorted (l.take i)
  have h3 : ∀ y ∈ (sortRow (l.take i)).take j, ¬ x < y := by
    intro y hy
    rcases h1 with rfl | ⟨z, hz, hzx⟩
    · simp at hy
    · obtain ⟨a, ha, rfl⟩ := List.mem_take_iff_getElem.1 hy
      obtain ⟨hk, rfl⟩ := List.getElem?_eq_some_iff.1 hz
      by_cases e : a = j - 1
      · subst e
        exact hzx
      · have := List.pairwise_iff_getElem.1 hs a (j - 1) (by omega) hk (by omega)
        omega
  unfold insAt sortTo
  rw [List.take_succ_eq_append_getElem hi, hx, sortRow_snoc, putRow_at _ _ j h3 h2, List.append_assoc]
  rfl
theorem drop_more {S : List Int} {j : Nat} {x y : Int} (h0 : 0 < j) (hy : S[j - 1]? = some y) (hx : x < y) (h : ∀ z ∈ S.drop j, x < z) : ∀ z ∈ S.drop (j - 1), x < z := by
  obtain ⟨hk, rfl⟩ := List.getElem?_eq_some_iff.1 hy
  intro z hz
  rw [List.drop_eq_getElem_cons hk, show j - 1 + 1 = j by omega] at hz
  rcases List.mem_cons.1 hz with rfl | hz
  · exact hx
  · exact h z hz
/-- m is l with the first k and the last k ones exchanged. -/
def RevTo (l m : List Int) (k : Nat) : Prop := m.length = l.length ∧ ∀ i, i < l.length → m[i]? = if i < k ∨ l.length - k ≤ i then l[l.length - 1 - i]? else l[i]?
theorem RevTo.zero (l : List Int) : RevTo l l 0 := ⟨rfl, fun i hi => by rw [if_neg (by omega)]⟩
theorem RevTo.step {l m : List Int} {k : Nat} {x y : Int} (h : RevTo l m k) (hk : k < l.length - 1 - k) (hx : m[k]? = some x) (hy : m[l.length - 1 - k]? = some y) : RevTo l ((m.set k y).set (l.length - 1 - k) x) (k + 1) := by
  obtain ⟨h1, h2⟩ := h
  have ex := h2 k (by omega)
  have ey := h2 (l.length - 1 - k) (by omega)
  rw [if_neg (by omega), hx] at ex
  rw [if_neg (by omega), hy] at ey
  refine ⟨by simp [h1], fun i hi => ?_⟩
  rw [List.getElem?_set, List.length_set, List.getElem?_set]
  by_cases e1 : l.length - 1 - k = i
  · rw [if_pos e1, if_pos (by omega), if_pos (by omega), ← e1, show l.length - 1 - (l.length - 1 - k) = k by omega]
    exact ex
  · rw [if_neg e1]
    by_cases e2 : k = i
    · subst e2
      rw [if_pos rfl, if_pos (by omega), if_pos (by omega)]
      exact ey
    · rw [if_neg e2, h2 i hi]
      by_cases e3 : i < k ∨ l.length - k ≤ i
      · rw [if_pos e3, if_pos (by omega)]
      · rw [if_neg e3, if_neg (by omega)]
theorem RevTo.done {l m : List Int} {k : Nat} (h : RevTo l m k) (hk : l.length - 1 - k ≤ k) : m = l.reverse := by
  obtain ⟨h1, h2⟩ := h
  apply List.ext_getElem?
  intro i
  by_cases hi : i < l.length
  · rw [h2 i hi, List.getElem?_reverse hi]
    split
    · rfl
    · rename_i hn
      congr 1
      omega
  · rw [List.getElem?_eq_none (by omega), List.getElem?_eq_none (by simp; omega)]
end Go.Proofs.YthampfkicnakgaaGreatDoor
