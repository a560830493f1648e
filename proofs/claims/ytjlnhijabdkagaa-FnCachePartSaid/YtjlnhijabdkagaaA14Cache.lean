/- The plain functions on caches, further. Conditions: none. -/
import Derived.Test.YtjlnhijabdkagaaA13Cache
namespace Go.Proofs.Ytjlnhijabdkagaa
open Go.RowKit
theorem OwnE.alloc {w : World} {base : Nat} {v : Value} {es : List Ent} (h : OwnE w base v es) (o : Obj) : OwnE (w.alloc o) base v es := h.new (World.grownBy_alloc w o none)
theorem at_iff {es : List Ent} {k : Int} {rows : List (List Int)} {i : Nat} {e : Ent} (h : cacheValid es = true) (he : es[i]? = some e) : ((i : Int) = cacheAt es k rows) ↔ entIs k rows e = true := by
  have h3 := (valid_iff.1 h).2.2
  obtain ⟨hil, rfl⟩ := List.getElem?_eq_some_iff.1 he
  unfold cacheAt
  cases hi : es.findIdx? (entIs k rows) with
  | none =>
    rw [List.findIdx?_eq_none_iff] at hi
    have := hi es[i] (List.getElem_mem hil)
    rw [this]
    constructor
    · intro e
      have e : (i : Int) = -1 := e
      omega
    · intro e
      cases e
  | some j =>
    obtain ⟨hj, hm, _⟩ := List.findIdx?_eq_some_iff_getElem.1 hi
    show (i : Int) = (j : Int) ↔ _
    constructor
    · intro e
      obtain rfl : i = j := by omega
      exact hm
    · intro hm'
      obtain ⟨a1, a2⟩ := entIs_iff.1 hm
      obtain ⟨b1, b2⟩ := entIs_iff.1 hm'
      rw [List.pairwise_iff_getElem] at h3
      rcases Nat.lt_trichotomy i j with hlt | rfl | hlt
      · exact absurd ⟨b1.trans a1.symm, b2.trans a2.symm⟩ (h3 i j hil hj hlt)
      · rfl
      · exact absurd ⟨a1.trans b1.symm, a2.trans b2.symm⟩ (h3 j i hj hil hlt)
/-- What stands behind the first entry once k entries have been gone through. -/
def keptTo (es : List Ent) (kind : Int) (rows : List (List Int)) (k : Nat) : List Ent := (es.take k).filter fun e => !entIs kind rows e
theorem kept_len (es : List Ent) (kind : Int) (rows : List (List Int)) (k : Nat) : (keptTo es kind rows k).length ≤ k := by
  have := List.length_filter_le (fun e => !entIs kind rows e) (es.take k)
  unfold keptTo
  rw [List.length_take] at this
  omega
theorem kept_in {es : List Ent} {kind : Int} {rows : List (List Int)} {k : Nat} {e : Ent} (he : es[k]? = some e) (hm : entIs kind rows e = true) : keptTo es kind rows (k + 1) = keptTo es kind rows k := by
  obtain ⟨hk, rfl⟩ := List.getElem?_eq_some_iff.1 he
  unfold keptTo
  rw [List.take_succ_eq_append_getElem hk, List.filter_append, List.filter_cons_of_neg (by simp [hm])]
  simp
theorem kept_out {es : List Ent} {kind : Int} {rows : List (List Int)} {k : Nat} {e : Ent} (he : es[k]? = some e) (hm : entIs kind rows e = false) : keptTo es kind rows (k + 1) = keptTo es kind rows k ++ [e] := by
  obtain ⟨hk, rfl⟩ := List.getElem?_eq_some_iff.1 he
  unfold keptTo
  rw [List.take_succ_eq_append_getElem hk, List.filter_append, List.filter_cons_of_pos (by simp [hm])]
  simp
theorem next_kept {es : List Ent} {kind : Int} {rows : List (List Int)} {out : List Int} {k : Nat} (hl : (keptTo es kind rows k).length ≤ 3) (h : (keptTo es kind rows k).length = 3 ∨ k = es.length) : cacheNext es kind rows out = ⟨kind, rows, out⟩ :: keptTo es kind rows k := by
  rw [next_cons]
  congr 1
  have hs : (es.filter fun e => !entIs kind rows e) = keptTo es kind rows k ++ (es.drop k).filter fun e => !entIs kind rows e := by
    unfold keptTo
    rw [← List.filter_append, List.take_append_drop]
  rw [hs]
  rcases h with h | h
  · rw [List.take_append_of_le_length (by omega), List.take_of_length_le (by omega)]
  · rw [h, List.drop_eq_nil_of_le (Nat.le_refl _)]
    rw [h] at hl
    simp only [List.filter_nil, List.append_nil]
    exact List.take_of_length_le (by omega)
theorem copy_ok {k : Int} {rows : List (List Int)} {out : List Int} (h : kindRun k rows = some out) : rows.length ≤ 1000 ∧ out.length ≤ 1000 ∧ ∀ l ∈ rows, l.length ≤ 1000 := by
  obtain ⟨h1, h2, h3⟩ := kindRun_valid h
  have h4 := rowValid_len h1
  have h5 := (kindNeeds_le k).2
  refine ⟨by omega, by omega, fun l hl => ?_⟩
  have := (h3 l hl).1
  omega
theorem ent_ok {es : List Ent} {e : Ent} (hv : cacheValid es = true) (he : e ∈ es) : kindRun e.kind e.rows = some e.out := by
  have := (valid_iff.1 hv).2.1 e he
  simpa [entRight] using this
theorem at_any {es : List Ent} {k : Int} {rows : List (List Int)} : decide (0 ≤ cacheAt es k rows) = es.any (entIs k rows) := by
  unfold cacheAt
  cases hi : es.findIdx? (entIs k rows) with
  | none =>
    rw [List.findIdx?_eq_none_iff] at hi
    have : es.any (entIs k rows) = false := by
      rw [List.any_eq_false]
      intro x hx
      simp [hi x hx]
    rw [this]
    rfl
  | some j =>
    obtain ⟨hj, hm, _⟩ := List.findIdx?_eq_some_iff_getElem.1 hi
    have : es.any (entIs k rows) = true := List.any_eq_true.2 ⟨_, List.getElem_mem hj, hm⟩
    rw [this]
    show decide ((0 : Int) ≤ (j : Int)) = true
    simp
theorem run_none {es : List Ent} {k : Int} {rows : List (List Int)} (h : cacheValid es = false ∨ kindRun k rows = none) : cacheRun es k rows = none := by
  unfold cacheRun
  rcases h with h | h
  · rw [if_neg (by rw [h]; simp)]
  · split
    · rw [h]; rfl
    · rfl
theorem run_eq {es : List Ent} {k : Int} {rows : List (List Int)} {out : List Int} (h : cacheValid es = true) (hk : kindRun k rows = some out) : cacheRun es k rows = some (cacheNext es k rows out, out, es.any (entIs k rows)) := by
  unfold cacheRun
  rw [if_pos h, hk]
  rfl
end Go.Proofs.Ytjlnhijabdkagaa
