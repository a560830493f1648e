/- The plain functions on rows and kinds. Conditions: none. -/
import Derived.Test.YthampfkicnakgaaGreatDoorA2Pure
namespace Go.Proofs.YthampfkicnakgaaGreatDoor
def zipRow (f : Int → Int → Int) (a b : List Int) : List Int := List.zipWith (fun x y => f x y % 1009) a b
def rowBoth (f : Int → Int → Int) (a b : List Int) : Option (List Int) := if rowValid a && rowValid b && decide (a.length = b.length) then some (zipRow f a b) else none
def addI (x y : Int) : Int := x + y
def mulI (x y : Int) : Int := x * y
def rowAdd (a b : List Int) : Option (List Int) := rowBoth addI a b
def rowTimes (a b : List Int) : Option (List Int) := rowBoth mulI a b
def sumsFrom (s : Int) : List Int → List Int
  | [] => []
  | x :: xs => ((s + x) % 1009) :: sumsFrom ((s + x) % 1009) xs
def rowSums (l : List Int) : Option (List Int) := if rowValid l then some (sumsFrom 0 l) else none
/-- Ascending values with another one, behind all that are not greater. -/
def putRow : List Int → Int → List Int
  | [], n => [n]
  | x :: xs, n => if n < x then n :: x :: xs else x :: putRow xs n
def sortRow (l : List Int) : List Int := l.foldl putRow []
def rowSort (l : List Int) : Option (List Int) := if rowValid l then some (sortRow l) else none
def rowTurn (l : List Int) : Option (List Int) := if rowValid l then some l.reverse else none
def kindRun (k : Int) : List (List Int) → Option (List Int)
  | [a, b] => if k = 1 then rowAdd a b else if k = 2 then rowTimes a b else none
  | [a] => if k = 3 then rowSums a else if k = 4 then rowSort a else if k = 5 then rowTurn a else none
  | _ => none
theorem rowValid_mem {l : List Int} (h : rowValid l = true) {x : Int} (hx : x ∈ l) : 0 ≤ x ∧ x ≤ 1008 := by
  unfold rowValid at h
  simp only [Bool.and_eq_true, decide_eq_true_eq, List.all_eq_true] at h
  have := h.1 x hx
  unfold inRow at this
  simpa using this
theorem rowValid_len {l : List Int} (h : rowValid l = true) : l.length ≤ 6 := by
  unfold rowValid at h
  simp only [Bool.and_eq_true, decide_eq_true_eq] at h
  exact h.2
theorem rowValid_of {l : List Int} (h : ∀ x ∈ l, 0 ≤ x ∧ x ≤ 1008) (hl : l.length ≤ 6) : rowValid l = true := by
  unfold rowValid
  simp only [Bool.and_eq_true, decide_eq_true_eq, List.all_eq_true]
  refine ⟨fun x hx => ?_, hl⟩
  have := h x hx
  unfold inRow
  simp
  omega
/-! Sorting. -/
theorem putRow_perm (l : List Int) (n : Int) : (putRow l n).Perm (n :: l) := by
  induction l with
  | nil => exact List.Perm.refl _
  | cons x xs ih =>
    unfold putRow
    split
    · exact List.Perm.refl _
    · exact (List.Perm.cons x ih).trans (List.Perm.swap n x xs)
theorem putRow_sorted {l : List Int} (n : Int) (h : l.Pairwise (· ≤ ·)) : (putRow l n).Pairwise (· ≤ ·) := by
  induction l with
  | nil => simp [putRow]
  | cons x xs ih =>
    have h1 := List.pairwise_cons.1 h
    unfold putRow
    split
    · rename_i hx
      refine List.pairwise_cons.2 ⟨?_, h⟩
      intro y hy
      rcases List.mem_cons.1 hy with rfl | hy
      · omega
      · have := h1.1 y hy
        omega
    · refine List.pairwise_cons.2 ⟨?_, ih h1.2⟩
      intro y hy
      rcases List.mem_cons.1 ((putRow_perm xs n).mem_iff.1 hy) with rfl | hy
      · omega
      · exact h1.1 y hy
theorem sortRow_gen (l acc : List Int) (h : acc.Pairwise (· ≤ ·)) : (l.foldl putRow acc).Perm (l ++ acc) ∧ (l.foldl putRow acc).Pairwise (· ≤ ·) := by
  induction l generalizing acc with
  | nil => exact ⟨List.Perm.refl _, h⟩
  | cons x xs ih =>
    obtain ⟨h1, h2⟩ := ih (putRow acc x) (putRow_sorted x h)
    refine ⟨h1.trans ?_, h2⟩
    refine (List.Perm.append_left xs (putRow_perm acc x)).trans ?_
    exact List.perm_middle
theorem sortRow_perm (l : List Int) : (sortRow l).Perm l := by
  have := (sortRow_gen l [] List.Pairwise.nil).1
  rw [List.append_nil] at this
  exact this
theorem sortRow_sorted (l : List Int) : (sortRow l).Pairwise (· ≤ ·) := (sortRow_gen l [] List.Pairwise.nil).2
theorem sorted_unique : ∀ {a b : List Int}, a.Perm b → a.Pairwise (· ≤ ·) → b.Pairwise (· ≤ ·) → a = b
  | [], b, h, _, _ => by simpa using h.symm
  | x :: xs, [], h, _, _ => by simp at h
  | x :: xs, y :: ys, h, ha, hb => by
    have ha' := List.pairwise_cons.1 ha
    have hb' := List.pairwise_cons.1 hb
    have hx : x ∈ y :: ys := h.mem_iff.1 (by simp)
    have hy : y ∈ x :: xs := h.mem_iff.2 (by simp)
    have e : x = y := by
      rcases List.mem_cons.1 hx with h1 | h1
      · exact h1
      · rcases List.mem_cons.1 hy with h2 | h2
        · exact h2.symm
        · have := ha'.1 y h2
          have := hb'.1 x h1
          omega
    subst e
    rw [sorted_unique (List.Perm.cons_inv h) ha'.2 hb'.2]
theorem sortRow_eq {l m : List Int} (h : m.Perm l) (hs : m.Pairwise (· ≤ ·)) : m = sortRow l :=
  sorted_unique (h.trans (sortRow_perm l).symm) hs (sortRow_sorted l)
theorem sortRow_len (l : List Int) : (sortRow l).length = l.length := (sortRow_perm l).length_eq
/-! Lengths and ranges. -/
theorem sumsFrom_len (s : Int) (l : List Int) : (sumsFrom s l).length = l.length := by
  induction l generalizing s with
  | nil => rfl
  | cons x xs ih => simp [sumsFrom, ih]
theorem sumsFrom_in (s : Int) (l : List Int) : ∀ x ∈ sumsFrom s l, 0 ≤ x ∧ x ≤ 1008 := by
  induction l generalizing s with
  | nil => intro x hx; simp [sumsFrom] at hx
  | cons y ys ih =>
    intro x hx
    rcases List.mem_cons.1 hx with rfl | hx
    · omega
    · exact ih _ x hx
theorem zipRow_len {f : Int → Int → Int} {a b : List Int} (h : a.length = b.length) : (zipRow f a b).length = a.length := by
  unfold zipRow
  rw [List.length_zipWith]
  omega
theorem zipRow_in (f : Int → Int → Int) (a b : List Int) : ∀ x ∈ zipRow f a b, 0 ≤ x ∧ x ≤ 1008 := by
  intro x hx
  unfold zipRow at hx
  obtain ⟨i, hi⟩ := List.mem_iff_getElem?.1 hx
  rw [List.getElem?_zipWith] at hi
  split at hi
  · injection hi with hi
    omega
  · cases hi
theorem rowBoth_valid {f : Int → Int → Int} {a b r : List Int} (h : rowBoth f a b = some r) : rowValid r = true ∧ r.length = a.length ∧ r.length = b.length ∧ rowValid a = true ∧ rowValid b = true := by
  unfold rowBoth at h
  split at h
  · rename_i hc
    injection h with h
    subst h
    simp only [Bool.and_eq_true, decide_eq_true_eq] at hc
    have hl := zipRow_len (f := f) hc.2
    exact ⟨rowValid_of (zipRow_in f a b) (by rw [hl]; exact rowValid_len hc.1.1), hl, by omega, hc.1.1, hc.1.2⟩
  · cases h
theorem kindRun_valid {k : Int} {rows : List (List Int)} {r : List Int} (h : kindRun k rows = some r) : rowValid r = true ∧ (rows.length : Int) = kindNeeds k ∧ ∀ l ∈ rows, l.length = r.length ∧ rowValid l = true := by
  have two : ∀ {f : Int → Int → Int} {a b : List Int}, rowBoth f a b = some r → ∀ l ∈ [a, b], l.length = r.length ∧ rowValid l = true := by
    intro f a b h l hl
    obtain ⟨_, h1, h2, h3, h4⟩ := rowBoth_valid h
    simp at hl
    rcases hl with rfl | rfl
    · exact ⟨h1.symm, h3⟩
    · exact ⟨h2.symm, h4⟩
  unfold kindRun at h
  split at h
  · rename_i a b
    split at h
    · rename_i hk
      subst hk
      exact ⟨(rowBoth_valid h).1, rfl, two h⟩
    · split at h
      · rename_i hk
        subst hk
        exact ⟨(rowBoth_valid h).1, rfl, two h⟩
      · cases h
  · rename_i a
    have one : ∀ {m : List Int}, rowValid a = true → m.length = a.length → (∀ x ∈ m, 0 ≤ x ∧ x ≤ 1008) → rowValid m = true ∧ ∀ l ∈ [a], l.length = m.length ∧ rowValid l = true := by
      intro m hv hl hm
      refine ⟨rowValid_of hm (by rw [hl]; exact rowValid_len hv), fun l hl' => ?_⟩
      simp at hl'
      subst hl'
      exact ⟨hl.symm, hv⟩
    split at h
    · rename_i hk
      subst hk
      unfold rowSums at h
      split at h
      · rename_i hv
        injection h with h
        subst h
        obtain ⟨h1, h2⟩ := one hv (sumsFrom_len 0 a) (sumsFrom_in 0 a)
        exact ⟨h1, rfl, h2⟩
      · cases h
    · split at h
      · rename_i hk
        subst hk
        unfold rowSort at h
        split at h
        · rename_i hv
          injection h with h
          subst h
          obtain ⟨h1, h2⟩ := one hv (sortRow_len a) (fun x hx => rowValid_mem hv ((sortRow_perm a).mem_iff.1 hx))
          exact ⟨h1, rfl, h2⟩
        · cases h
      · split at h
        · rename_i hk
          subst hk
          unfold rowTurn at h
          split at h
          · rename_i hv
            injection h with h
            subst h
            obtain ⟨h1, h2⟩ := one (m := a.reverse) hv (by simp) (fun x hx => rowValid_mem hv (by simpa using hx))
            exact ⟨h1, rfl, h2⟩
          · cases h
        · cases h
  · cases h
end Go.Proofs.YthampfkicnakgaaGreatDoor
