/- Words for memory: entries, slices of entries. · The plain functions on caches. Conditions: none. · The plain functions on caches, further. Conditions: none. · Walks: spec.l33At, spec.CacheValid, impl's Entry.isOf, Entry.right. · Walks: impl.CacheValid, CacheFind of both. -/
import Derived.Test.YtihobnheficpjaaGreatDoorM06
import Derived.Test.YtihobnheficpjaaGreatDoorM16
import Derived.Test.YtihobnheficpjaaGreatDoorM17
import Derived.Test.YtihobnheficpjaaGreatDoorM13
namespace Go.Proofs.YtihobnheficpjaaGreatDoor
open Go.RowKit

structure Ent where
  kind : Int
  rows : List (List Int)
  out : List Int
deriving DecidableEq, Inhabited
end Go.Proofs.YtihobnheficpjaaGreatDoor
namespace Go.Proofs.YtihobnheficpjaaGreatDoor

def entIs (k : Int) (rows : List (List Int)) (e : Ent) : Bool := decide (e.kind = k) && decide (e.rows = rows)
def entRight (e : Ent) : Bool := decide (kindRun e.kind e.rows = some e.out)
/-- The first j entries are right, and none of them is there earlier. -/
def entsTo (es : List Ent) (j : Nat) : Bool := (es.zipIdx.take j).all fun x => entRight x.1 && !(es.take x.2).any (entIs x.1.kind x.1.rows)
def cacheValid (es : List Ent) : Bool := entsTo es es.length && decide (es.length ≤ 4)
def cacheFind (es : List Ent) (k : Int) (rows : List (List Int)) : Option (List Int) := if cacheValid es then (es.find? (entIs k rows)).map Ent.out else none
/-- The place of an entry, or -1. -/
def cacheAt (es : List Ent) (k : Int) (rows : List (List Int)) : Int := match es.findIdx? (entIs k rows) with | some i => (i : Int) | none => -1
def cacheNext (es : List Ent) (k : Int) (rows : List (List Int)) (out : List Int) : List Ent := ((⟨k, rows, out⟩ :: es.filter fun e => !entIs k rows e)).take 4
def cacheRun (es : List Ent) (k : Int) (rows : List (List Int)) : Option (List Ent × List Int × Bool) :=
  if cacheValid es then (kindRun k rows).map fun out => (cacheNext es k rows out, out, es.any (entIs k rows)) else none
theorem entIs_iff {k : Int} {rows : List (List Int)} {e : Ent} : entIs k rows e = true ↔ e.kind = k ∧ e.rows = rows := by simp [entIs]
theorem entsTo_iff {es : List Ent} {j : Nat} (hj : j ≤ es.length) : entsTo es j = true ↔ ∀ (i : Nat) (e : Ent), i < j → es[i]? = some e → entRight e = true ∧ ∀ (i' : Nat) (e' : Ent), i' < i → es[i']? = some e' → entIs e.kind e.rows e' = false := by
  unfold entsTo
  rw [List.all_eq_true]
  constructor
  · intro h i e hi he
    have hm : (e, i) ∈ es.zipIdx.take j := by
      rw [List.mem_take_iff_getElem]
      obtain ⟨h1, h2⟩ := List.getElem?_eq_some_iff.1 he
      refine ⟨i, by rw [List.length_zipIdx]; omega, ?_⟩
      rw [List.getElem_zipIdx, h2]
      simp
    have := h _ hm
    simp only [Bool.and_eq_true, Bool.not_eq_true', List.any_eq_false] at this
    refine ⟨this.1, fun i' e' hi' he' => ?_⟩
    have hm' : e' ∈ es.take i := by
      rw [List.mem_take_iff_getElem]
      obtain ⟨h1, h2⟩ := List.getElem?_eq_some_iff.1 he'
      exact ⟨i', by omega, h2⟩
    simpa using this.2 e' hm'
  · intro h x hx
    rw [List.mem_take_iff_getElem] at hx
    obtain ⟨i, hi, hx⟩ := hx
    rw [List.length_zipIdx] at hi
    rw [List.getElem_zipIdx] at hx
    subst hx
    simp only [Nat.zero_add]
    have hil : i < es.length := by omega
    obtain ⟨h1, h2⟩ := h i es[i] (by omega) (List.getElem?_eq_getElem hil)
    rw [h1, Bool.true_and, Bool.not_eq_true', List.any_eq_false]
    intro e' he'
    rw [List.mem_take_iff_getElem] at he'
    obtain ⟨i', hi', rfl⟩ := he'
    have := h2 i' _ (by omega) (List.getElem?_eq_getElem (by omega))
    simp [this]
theorem valid_iff {es : List Ent} : cacheValid es = true ↔ es.length ≤ 4 ∧ (∀ e ∈ es, entRight e = true) ∧ es.Pairwise (fun a b => ¬(a.kind = b.kind ∧ a.rows = b.rows)) := by
  unfold cacheValid
  rw [Bool.and_eq_true, decide_eq_true_eq, entsTo_iff (Nat.le_refl _)]
  constructor
  · rintro ⟨h, hl⟩
    refine ⟨hl, fun e he => ?_, ?_⟩
    · obtain ⟨i, hi, rfl⟩ := List.getElem_of_mem he
      exact (h i _ hi (List.getElem?_eq_getElem hi)).1
    · rw [List.pairwise_iff_getElem]
      intro i j hi hj hij
      have := (h j _ hj (List.getElem?_eq_getElem hj)).2 i _ hij (List.getElem?_eq_getElem hi)
      simpa [entIs] using this
  · rintro ⟨hl, h1, h2⟩
    refine ⟨fun i e hi he => ?_, hl⟩
    refine ⟨h1 e (List.mem_of_getElem? he), fun i' e' hi' he' => ?_⟩
    obtain ⟨a1, rfl⟩ := List.getElem?_eq_some_iff.1 he
    obtain ⟨b1, rfl⟩ := List.getElem?_eq_some_iff.1 he'
    rw [List.pairwise_iff_getElem] at h2
    have := h2 i' i b1 a1 hi'
    simpa [entIs] using this
theorem valid_len {es : List Ent} (h : cacheValid es = true) : es.length ≤ 4 := (valid_iff.1 h).1
theorem valid_sub {es es' : List Ent} (h : cacheValid es = true) (hs : es'.Sublist es) : cacheValid es' = true := by
  obtain ⟨h1, h2, h3⟩ := valid_iff.1 h
  exact valid_iff.2 ⟨Nat.le_trans hs.length_le h1, fun e he => h2 e (hs.subset he), h3.sublist hs⟩
/-- An entry that is there twice. -/
theorem not_valid_twice {es : List Ent} {i j : Nat} {e : Ent} (hij : i < j) (hi : es[i]? = some e) (hj : es[j]? = some e) : cacheValid es = false := by
  rw [Bool.eq_false_iff]
  intro h
  have h3 := (valid_iff.1 h).2.2
  obtain ⟨a1, a2⟩ := List.getElem?_eq_some_iff.1 hi
  obtain ⟨b1, b2⟩ := List.getElem?_eq_some_iff.1 hj
  rw [List.pairwise_iff_getElem] at h3
  exact h3 i j a1 b1 hij ⟨by rw [a2, b2], by rw [a2, b2]⟩
theorem next_valid {es : List Ent} {k : Int} {rows : List (List Int)} {out : List Int} (h : cacheValid es = true) (hk : kindRun k rows = some out) : cacheValid (cacheNext es k rows out) = true := by
  obtain ⟨h1, h2, h3⟩ := valid_iff.1 h
  unfold cacheNext
  refine valid_iff.2 ⟨by rw [List.length_take]; omega, ?_, ?_⟩
  · intro e he
    have := List.mem_of_mem_take he
    rw [List.mem_cons] at this
    rcases this with rfl | hm
    · simpa [entRight] using hk
    · exact h2 e (List.mem_filter.1 hm).1
  · refine List.Pairwise.sublist (List.take_sublist _ _) ?_
    rw [List.pairwise_cons]
    refine ⟨fun e he hc => ?_, h3.sublist List.filter_sublist⟩
    have := (List.mem_filter.1 he).2
    simp only [Bool.not_eq_true', entIs, Bool.and_eq_false_iff, decide_eq_false_iff_not] at this
    rcases this with h | h
    · exact h hc.1.symm
    · exact h hc.2.symm
/-- At most one entry is of a kind and rows. -/
theorem valid_filter {es : List Ent} (h : cacheValid es = true) (k : Int) (rows : List (List Int)) :
    (es.filter fun e => !entIs k rows e) = match es.findIdx? (entIs k rows) with | some i => es.eraseIdx i | none => es := by
  have h3 := (valid_iff.1 h).2.2
  clear h
  induction es with
  | nil => rfl
  | cons x xs ih =>
    rw [List.pairwise_cons] at h3
    by_cases hx : entIs k rows x = true
    · rw [List.findIdx?_cons, if_pos hx]
      show _ = xs
      rw [List.filter_cons_of_neg (by simp [hx]), List.filter_eq_self]
      intro e he
      have := h3.1 e he
      obtain ⟨h1, h2⟩ := entIs_iff.1 hx
      rw [Bool.not_eq_true', Bool.eq_false_iff]
      intro hc
      obtain ⟨h1', h2'⟩ := entIs_iff.1 hc
      exact this ⟨h1.trans h1'.symm, h2.trans h2'.symm⟩
    · have hx' : entIs k rows x = false := by simpa using hx
      rw [List.findIdx?_cons, if_neg hx, List.filter_cons_of_pos (by simp [hx']), ih h3.2]
      cases h : xs.findIdx? (entIs k rows) <;> simp
theorem find_right {es : List Ent} {k : Int} {rows : List (List Int)} {out : List Int} (h : cacheFind es k rows = some out) : cacheValid es = true ∧ kindRun k rows = some out := by
  unfold cacheFind at h
  split at h
  · rename_i hv
    refine ⟨hv, ?_⟩
    rw [Option.map_eq_some_iff] at h
    obtain ⟨e, he, rfl⟩ := h
    have h1 := List.find?_some he
    have h2 := List.mem_of_find?_eq_some he
    have := (valid_iff.1 hv).2.1 e h2
    obtain ⟨rfl, rfl⟩ := entIs_iff.1 h1
    simpa [entRight] using this
  · cases h
theorem run_some {es : List Ent} {k : Int} {rows : List (List Int)} {r : List Ent × List Int × Bool} (h : cacheRun es k rows = some r) :
    cacheValid es = true ∧ kindRun k rows = some r.2.1 ∧ r.1 = cacheNext es k rows r.2.1 ∧ r.2.2 = es.any (entIs k rows) ∧ cacheValid r.1 = true := by
  unfold cacheRun at h
  split at h
  · rename_i hv
    rw [Option.map_eq_some_iff] at h
    obtain ⟨out, ho, rfl⟩ := h
    exact ⟨hv, ho, rfl, rfl, next_valid hv ho⟩
  · cases h
theorem next_cons (es : List Ent) (k : Int) (rows : List (List Int)) (out : List Int) : cacheNext es k rows out = ⟨k, rows, out⟩ :: (es.filter fun e => !entIs k rows e).take 3 := by
  unfold cacheNext
  rw [List.take_succ_cons]
theorem run_again {es : List Ent} {k : Int} {rows : List (List Int)} {r : List Ent × List Int × Bool} (h : cacheRun es k rows = some r) : cacheRun r.1 k rows = some (r.1, r.2.1, true) := by
  obtain ⟨h1, h2, h3, h4, h5⟩ := run_some h
  unfold cacheRun
  rw [if_pos h5, h2]
  simp only [Option.map_some, Option.some.injEq, Prod.mk.injEq, true_and]
  rw [h3]
  constructor
  · rw [next_cons, next_cons, List.filter_cons_of_neg (by simp [entIs]), ← next_cons]
    rw [next_cons, List.filter_eq_self.2, List.take_take]
    · rfl
    · intro e he
      exact (List.mem_filter.1 (List.mem_of_mem_take he)).2
  · rw [next_cons]
    simp [entIs]
theorem find_hit {es : List Ent} {k : Int} {rows : List (List Int)} {r : List Ent × List Int × Bool} (h : cacheRun es k rows = some r) : (cacheFind es k rows).isSome = r.2.2 := by
  obtain ⟨h1, h2, h3, h4, h5⟩ := run_some h
  unfold cacheFind
  rw [if_pos h1, Option.isSome_map, h4, Bool.eq_iff_iff, List.find?_isSome, List.any_eq_true]
theorem next_len {es : List Ent} {k : Int} {rows : List (List Int)} {out : List Int} (h : cacheValid es = true) :
    (cacheNext es k rows out).length = if es.any (entIs k rows) then es.length else min (es.length + 1) 4 := by
  have hl := valid_len h
  unfold cacheNext
  rw [List.length_take, List.length_cons, valid_filter h]
  cases hi : es.findIdx? (entIs k rows) with
  | none =>
    have : es.any (entIs k rows) = false := by
      rw [List.findIdx?_eq_none_iff] at hi
      rw [List.any_eq_false]
      intro x hx
      simp [hi x hx]
    rw [this]
    simp
    omega
  | some i =>
    have : es.any (entIs k rows) = true := by
      obtain ⟨h1, h2, _⟩ := List.findIdx?_eq_some_iff_getElem.1 hi
      exact List.any_eq_true.2 ⟨_, List.getElem_mem h1, h2⟩
    have h1 := (List.findIdx?_eq_some_iff_getElem.1 hi).1
    rw [this]
    simp only [if_true, List.length_eraseIdx, if_pos h1]
    omega
theorem cacheAt_lt {es : List Ent} {k : Int} {rows : List (List Int)} {i : Nat} (he : ∃ e, es[i]? = some e ∧ entIs k rows e = true) : decide (cacheAt es k rows < (i : Int)) = (es.take i).any (entIs k rows) := by
  obtain ⟨e, he, hm⟩ := he
  obtain ⟨hil, he'⟩ := List.getElem?_eq_some_iff.1 he
  unfold cacheAt
  cases hi : es.findIdx? (entIs k rows) with
  | none =>
    rw [List.findIdx?_eq_none_iff] at hi
    have := hi e (List.mem_of_getElem? he)
    rw [this] at hm
    cases hm
  | some j =>
    obtain ⟨h1, h2, h3⟩ := List.findIdx?_eq_some_iff_getElem.1 hi
    show decide ((j : Int) < (i : Int)) = _
    rw [Bool.eq_iff_iff, decide_eq_true_eq, List.any_eq_true]
    constructor
    · intro hlt
      refine ⟨es[j], ?_, h2⟩
      rw [List.mem_take_iff_getElem]
      exact ⟨j, by omega, rfl⟩
    · rintro ⟨x, hx, hxm⟩
      rw [List.mem_take_iff_getElem] at hx
      obtain ⟨i', hi', rfl⟩ := hx
      have : j ≤ i' := by
        rcases Nat.lt_or_ge i' j with hlt | hge
        · exact absurd hxm (h3 i' hlt)
        · exact hge
      omega
theorem cacheAt_found {es : List Ent} {k : Int} {rows : List (List Int)} {i : Nat} {e : Ent} (h : (es.take i).any (entIs k rows) = false) (he : es[i]? = some e) (hm : entIs k rows e = true) : cacheAt es k rows = (i : Int) := by
  unfold cacheAt
  obtain ⟨hil, rfl⟩ := List.getElem?_eq_some_iff.1 he
  have : es.findIdx? (entIs k rows) = some i := by
    rw [List.findIdx?_eq_some_iff_getElem]
    refine ⟨hil, hm, fun j hj hc => ?_⟩
    rw [List.any_eq_false] at h
    refine h es[j] ?_ hc
    rw [List.mem_take_iff_getElem]
    exact ⟨j, by omega, rfl⟩
  rw [this]
theorem cacheAt_none {es : List Ent} {k : Int} {rows : List (List Int)} (h : es.any (entIs k rows) = false) : cacheAt es k rows = -1 := by
  unfold cacheAt
  have : es.findIdx? (entIs k rows) = none := by
    rw [List.findIdx?_eq_none_iff]
    intro x hx
    rw [List.any_eq_false] at h
    simpa using h x hx
  rw [this]
theorem any_snoc {α : Type} {l : List α} {p : α → Bool} {i : Nat} {e : α} (he : l[i]? = some e) : (l.take (i + 1)).any p = ((l.take i).any p || p e) := by
  obtain ⟨hil, rfl⟩ := List.getElem?_eq_some_iff.1 he
  rw [List.take_succ_eq_append_getElem hil, List.any_append]
  simp
theorem entsTo_succ {es : List Ent} {j : Nat} {e : Ent} (he : es[j]? = some e) : entsTo es (j + 1) = (entsTo es j && (entRight e && !(es.take j).any (entIs e.kind e.rows))) := by
  obtain ⟨hil, rfl⟩ := List.getElem?_eq_some_iff.1 he
  unfold entsTo
  rw [List.take_succ_eq_append_getElem (by rw [List.length_zipIdx]; exact hil), List.all_append]
  simp
theorem entsTo_mono {es : List Ent} {j : Nat} (h : entsTo es es.length = true) : entsTo es j = true := by
  unfold entsTo at *
  rw [List.all_eq_true] at *
  intro x hx
  refine h x ?_
  rw [List.take_of_length_le (by rw [List.length_zipIdx]; exact Nat.le_refl _)]
  exact List.mem_of_mem_take hx
theorem not_valid_at {es : List Ent} {j : Nat} {e : Ent} (he : es[j]? = some e) (h : (entRight e && !(es.take j).any (entIs e.kind e.rows)) = false) : cacheValid es = false := by
  unfold cacheValid
  rw [Bool.and_eq_false_iff]
  left
  rw [Bool.eq_false_iff]
  intro hc
  have := entsTo_mono (j := j + 1) hc
  rw [entsTo_succ he, h, Bool.and_false] at this
  cases this
theorem cacheFind_none {es : List Ent} {k : Int} {rows : List (List Int)} (h : es.any (entIs k rows) = false) : cacheFind es k rows = none := by
  unfold cacheFind
  split
  · rw [Option.map_eq_none_iff, List.find?_eq_none]
    rw [List.any_eq_false] at h
    exact h
  · rfl
theorem cacheFind_bad {es : List Ent} {k : Int} {rows : List (List Int)} (h : cacheValid es = false) : cacheFind es k rows = none := by
  unfold cacheFind
  rw [if_neg (by rw [h]; simp)]
theorem cacheFind_some {es : List Ent} {k : Int} {rows : List (List Int)} {i : Nat} {e : Ent} (hv : cacheValid es = true) (h : (es.take i).any (entIs k rows) = false) (he : es[i]? = some e) (hm : entIs k rows e = true) : cacheFind es k rows = some e.out := by
  unfold cacheFind
  obtain ⟨hil, rfl⟩ := List.getElem?_eq_some_iff.1 he
  rw [if_pos hv]
  have : es.find? (entIs k rows) = some es[i] := by
    rw [List.find?_eq_some_iff_getElem]
    refine ⟨hm, i, hil, rfl, fun j hj => ?_⟩
    rw [List.any_eq_false] at h
    have := h es[j] (by rw [List.mem_take_iff_getElem]; exact ⟨j, by omega, rfl⟩)
    simpa using this
  rw [this]
  rfl
end Go.Proofs.YtihobnheficpjaaGreatDoor
namespace Go.Proofs.YtihobnheficpjaaGreatDoor
open Go.RowKit
theorem at_iff {es : List Ent} {k : Int} {rows : List (List Int)} {i : Nat} {e : Ent} (h : cacheValid es = true) (he : es[i]? = some e) : ((i : Int) = cacheAt es k rows) ↔ entIs k rows e = true := by
  have h3 := (valid_iff.1 h).2.2
  obtain ⟨hil, rfl⟩ := List.getElem?_eq_some_iff.1 he
  unfold cacheAt
  cases hi : es.findIdx? (entIs k rows) with
  | none =>
    rw [List.findIdx?_eq_none_iff] at hi
    have := hi es[i] (List.getElem_mem hil)
    rw [this]
    constructor
    · intro e
      have e : (i : Int) = -1 := e
      omega
    · intro e
      cases e
  | some j =>
    obtain ⟨hj, hm, _⟩ := List.findIdx?_eq_some_iff_getElem.1 hi
    show (i : Int) = (j : Int) ↔ _
    constructor
    · intro e
      obtain rfl : i = j := by omega
      exact hm
    · intro hm'
      obtain ⟨a1, a2⟩ := entIs_iff.1 hm
      obtain ⟨b1, b2⟩ := entIs_iff.1 hm'
      rw [List.pairwise_iff_getElem] at h3
      rcases Nat.lt_trichotomy i j with hlt | rfl | hlt
      · exact absurd ⟨b1.trans a1.symm, b2.trans a2.symm⟩ (h3 i j hil hj hlt)
      · rfl
      · exact absurd ⟨a1.trans b1.symm, a2.trans b2.symm⟩ (h3 j i hj hil hlt)
/-- What stands behind the first entry once k entries have been gone through. -/
def keptTo (es : List Ent) (kind : Int) (rows : List (List Int)) (k : Nat) : List Ent := (es.take k).filter fun e => !entIs kind rows e
theorem kept_len (es : List Ent) (kind : Int) (rows : List (List Int)) (k : Nat) : (keptTo es kind rows k).length ≤ k := by
  have := List.length_filter_le (fun e => !entIs kind rows e) (es.take k)
  unfold keptTo
  rw [List.length_take] at this
  omega
theorem kept_in {es : List Ent} {kind : Int} {rows : List (List Int)} {k : Nat} {e : Ent} (he : es[k]? = some e) (hm : entIs kind rows e = true) : keptTo es kind rows (k + 1) = keptTo es kind rows k := by
  obtain ⟨hk, rfl⟩ := List.getElem?_eq_some_iff.1 he
  unfold keptTo
  rw [List.take_succ_eq_append_getElem hk, List.filter_append, List.filter_cons_of_neg (by simp [hm])]
  simp
theorem kept_out {es : List Ent} {kind : Int} {rows : List (List Int)} {k : Nat} {e : Ent} (he : es[k]? = some e) (hm : entIs kind rows e = false) : keptTo es kind rows (k + 1) = keptTo es kind rows k ++ [e] := by
  obtain ⟨hk, rfl⟩ := List.getElem?_eq_some_iff.1 he
  unfold keptTo
  rw [List.take_succ_eq_append_getElem hk, List.filter_append, List.filter_cons_of_pos (by simp [hm])]
  simp
theorem next_kept {es : List Ent} {kind : Int} {rows : List (List Int)} {out : List Int} {k : Nat} (hl : (keptTo es kind rows k).length ≤ 3) (h : (keptTo es kind rows k).length = 3 ∨ k = es.length) : cacheNext es kind rows out = ⟨kind, rows, out⟩ :: keptTo es kind rows k := by
  rw [next_cons]
  congr 1
  have hs : (es.filter fun e => !entIs kind rows e) = keptTo es kind rows k ++ (es.drop k).filter fun e => !entIs kind rows e := by
    unfold keptTo
    rw [← List.filter_append, List.take_append_drop]
  rw [hs]
  rcases h with h | h
  · rw [List.take_append_of_le_length (by omega), List.take_of_length_le (by omega)]
  · rw [h, List.drop_eq_nil_of_le (Nat.le_refl _)]
    rw [h] at hl
    simp only [List.filter_nil, List.append_nil]
    exact List.take_of_length_le (by omega)
theorem copy_ok {k : Int} {rows : List (List Int)} {out : List Int} (h : kindRun k rows = some out) : rows.length ≤ 1000 ∧ out.length ≤ 1000 ∧ ∀ l ∈ rows, l.length ≤ 1000 := by
  obtain ⟨h1, h2, h3⟩ := kindRun_valid h
  have h4 := rowValid_len h1
  have h5 := (kindNeeds_le k).2
  refine ⟨by omega, by omega, fun l hl => ?_⟩
  have := (h3 l hl).1
  omega
theorem ent_ok {es : List Ent} {e : Ent} (hv : cacheValid es = true) (he : e ∈ es) : kindRun e.kind e.rows = some e.out := by
  have := (valid_iff.1 hv).2.1 e he
  simpa [entRight] using this
theorem at_any {es : List Ent} {k : Int} {rows : List (List Int)} : decide (0 ≤ cacheAt es k rows) = es.any (entIs k rows) := by
  unfold cacheAt
  cases hi : es.findIdx? (entIs k rows) with
  | none =>
    rw [List.findIdx?_eq_none_iff] at hi
    have : es.any (entIs k rows) = false := by
      rw [List.any_eq_false]
      intro x hx
      simp [hi x hx]
    rw [this]
    rfl
  | some j =>
    obtain ⟨hj, hm, _⟩ := List.findIdx?_eq_some_iff_getElem.1 hi
    have : es.any (entIs k rows) = true := List.any_eq_true.2 ⟨_, List.getElem_mem hj, hm⟩
    rw [this]
    show decide ((0 : Int) ≤ (j : Int)) = true
    simp
theorem run_none {es : List Ent} {k : Int} {rows : List (List Int)} (h : cacheValid es = false ∨ kindRun k rows = none) : cacheRun es k rows = none := by
  unfold cacheRun
  rcases h with h | h
  · rw [if_neg (by rw [h]; simp)]
  · split
    · rw [h]; rfl
    · rfl
theorem run_eq {es : List Ent} {k : Int} {rows : List (List Int)} {out : List Int} (h : cacheValid es = true) (hk : kindRun k rows = some out) : cacheRun es k rows = some (cacheNext es k rows out, out, es.any (entIs k rows)) := by
  unfold cacheRun
  rw [if_pos h, hk]
  rfl
end Go.Proofs.YtihobnheficpjaaGreatDoor
namespace Go.Proofs.YtihobnheficpjaaGreatDoor
open Go.RowKit

end Go.Proofs.YtihobnheficpjaaGreatDoor
namespace Go.Proofs.YtihobnheficpjaaGreatDoor
open Go.RowKit

/-- 'append(list, x...)' onto an own row. -/
theorem wp_extend_ints {ops : Array Oper} {rest : List Oper} {o : Oper} {a : Act} {Q : Exit → Act → World → Prop} {w : World}
    (s x : Operand) (t : TypeId) (ht : Tryz.prog.underlying t = some (.slice 3)) (hgd : o.guard = none) (ho : o.op = .call { callee := .builtin .append, args := #[s, x], argTypes := #[t, t] })
    {base : Nat} {v xv : Value} {l0 l : List Int} (hown : OwnI w base v l0) (hxv : RI w xv l) (hn : l0.length + l.length ≤ 1000000000) (hbase : base ≤ w.heap.size)
    (hs : a.eval s = v) (hx : a.eval x = xv)
    (h : ∀ v' w', OwnI w' base v' (l0 ++ l) → w.grownBy w' v.ownBlock → wpList Tryz.prog ops Q rest (a.put o.dst v') w') :
    wpList Tryz.prog ops Q (o :: rest) a w := by
  obtain ⟨i, hi, hz0, hz1, hz2⟩ := info_parts info3
  obtain ⟨A, c, e, hc, hcm, hcn⟩ := TS.form hxv
  subst e
  match A, hcn with
  | none, hcn =>
    obtain rfl := hcn rfl
    have hl0 : l = [] := List.eq_nil_of_length_eq_zero (by omega)
    subst hl0
    refine wpList_append_own_none hgd s x t ho base 3 i 1 ht hi v _ _ hs hown hx ?_
    rw [List.append_nil] at h
    exact h _ _ hown (gb_refl _ _)
  | some ad, hcn =>
    refine wpList_append_own _ hgd s x t ho base 3 i _ 1 8 ht hi hz0 hz1 hz2 rfl (by decide) v _ _ hs hown ad l.length c (l.map (.int .i64)) hx (by rw [List.length_map, Nat.mul_one]) ?_ (ints_one l) ?_ ?_ hbase ?_
    · intro j u hj
      have hjl := (List.getElem?_eq_some_iff.1 hj).1
      rw [List.length_map] at hjl
      obtain ⟨g, o', cur, e, _, hcell⟩ := TS.at_ hxv (by omega)
      have e2 : ad = ⟨g, o', none⟩ := Option.some.inj e
      rw [e2, Addr.add_lit]
      exact hcell j u hj
    · unfold maxLen; omega
    · omega
    · intro v' w' h1 h2 _
      refine h v' w' ?_ h2
      unfold OwnI
      simpa using h1
end Go.Proofs.YtihobnheficpjaaGreatDoor
