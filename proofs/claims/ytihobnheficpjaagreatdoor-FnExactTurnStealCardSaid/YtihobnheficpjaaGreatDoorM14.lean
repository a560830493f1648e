/- Walks: (*nodeQueue).put, take. · Walks: impl.levelList. · Plain facts on sorting by insertion and turning in place. Conditions: none. -/
import Derived.Test.YtihobnheficpjaaGreatDoorM13
import Derived.Test.YtihobnheficpjaaGreatDoorM09
import Derived.Test.YtihobnheficpjaaGreatDoorM12
import Derived.Test.YtihobnheficpjaaGreatDoorM01
import Derived.Test.YtihobnheficpjaaGreatDoorM06
import Derived.BigRegion
import Derived.RegionTactic
import Derived.Deep.LoopGhost
import Derived.Test.YtihobnheficpjaaGreatDoorM02
namespace Go.Proofs.YtihobnheficpjaaGreatDoor
open Go.RowKit

theorem wp_push_qs {P : Program} {ops : Array Oper} {rest : List Oper} {o : Oper} {a : Act} {Q : Exit → Act → World → Prop} {w : World} {E : TypeId} {u : Value}
    (s x : Operand) (t : TypeId) (z : Value) (bytes : Nat) (ht : P.underlying t = some (.slice E)) (hinf : (P.info? E).map (fun i => (i.zero, i.size, i.bytes)) = some (some z, 1, bytes))
    (hzs : z.cells.size = 1) (hby : bytes ≤ 128) (hgd : o.guard = none)
    (ho : o.op = .call { callee := .builtin .append, args := #[s, x], argTypes := #[t, t] })
    {base : Nat} {v : Value} {xs : List Value} (hown : QS w base E v xs) (hn : xs.length ≤ 1000000000) (hbase : base ≤ w.heap.size) (h1 : u.oneCell' = true)
    (hs : a.eval s = v) {N : Nat} (hx : a.eval x = .slice (some ⟨N, 0, none⟩) 1 1) (hN : N = w.heap.size)
    (h : ∀ v' w', QS w' base E v' (xs ++ [u]) → w.grownBy w' v.ownBlock → (v'.ownBlock = v.ownBlock ∨ v'.ownBlock = some (w.heap.size + 1)) → wpList P ops Q rest (a.put o.dst v') w') :
    wpList P ops Q (o :: rest) a (w.alloc (.cells #[u] E)) := by
  subst hN
  have hc : (w.alloc (.cells #[u] E)).cell? ⟨w.heap.size, 0, none⟩ = some u := by rw [World.cell?_alloc_new]; rfl
  have h0 : QS (w.alloc (.cells #[u] E)) base E v xs := hown.new (World.grownBy_alloc w _ none)
  obtain ⟨v', w', hr, h2, h3, h4⟩ := append_qs (P := P) (t := t) (ty := o.type) (c := 1) ht hinf hzs hby h0 hc h1 hn (by simp; omega)
  refine wpList_plain hgd fun K hK => ?_
  unfold Oper.wp execOp
  simp only [ho, resolve, invoke, builtin, Sem.run_bind, Sem.run_pure, Result.andThen_ok, List.map_toArray, List.map_cons, List.map_nil, hs, hx, hr]
  refine hK _ _ (h v' w' h2 ?_ (by simpa using h4))
  exact ⟨h3.os, h3.tape, h3.output, Nat.le_trans (by simp) h3.size, fun k hk hne => (h3.block k (by simp; omega) hne).trans (Below.heap_alloc w _ k hk)⟩
theorem own_blk {w w' : World} {base size n : Nat} {E : TypeId} {v : Value} {xs : List Value} (h : w.ownsRow base E size v n xs) (k : ∀ g cs, Blk w g E cs → Blk w' g E cs) : w'.ownsRow base E size v n xs := by
  refine ⟨h.1, ?_⟩
  rcases h.2 with h0 | ⟨g, cap, cur, h1, h2, h3, h4⟩
  · exact .inl h0
  · exact .inr ⟨g, cap, cur, h1, h2, k g cur h3, h4⟩

end Go.Proofs.YtihobnheficpjaaGreatDoor
namespace Go.Proofs.YtihobnheficpjaaGreatDoor
open Go.RowKit

theorem OwnI.made {w : World} {base n : Nat} {v : Value} (h : w.ownsRow base 3 1 v n (madeCells #[Value.int .i64 0] n).toList) : OwnI w base v (List.replicate n 0) := by
  unfold OwnI
  have e : (madeCells #[Value.int .i64 0] n).toList = (List.replicate n (0 : Int)).map (.int .i64) := by
    apply List.ext_getElem?
    intro j
    by_cases hj : j < n
    · simp [madeCells, hj, Nat.mod_one]
    · simp [madeCells, hj]
  rw [List.length_replicate, ← e]
  exact h
theorem OwnI.apart_ {w w' : World} {base : Nat} {v : Value} {l : List Int} {row : Option Nat} (h : OwnI w base v l) (hg : w.grownBy w' row) (hr : v.ownBlock = none ∨ v.ownBlock ≠ row) : OwnI w' base v l := World.ownsRow.kept h hg hr
theorem OwnI.cell {w : World} {base g n c : Nat} {l : List Int} (h : OwnI w base (.slice (some ⟨g, 0, none⟩) n c) l) {k : Nat} {x : Int} (hx : l[k]? = some x) : w.cell? ⟨g, k, none⟩ = some (.int .i64 x) ∧ w.frozen? ⟨g, k, none⟩ = false ∧ base ≤ g ∧ ∃ cs, Blk w g 3 cs := by
  obtain ⟨g', cap', cur, he, _, hbg, hbk, hcs⟩ := h.form (by have := (List.getElem?_eq_some_iff.1 hx).1; omega)
  obtain rfl : g = g' := slice_block he
  exact ⟨hcs k x hx, hbk.frozen k, hbg, cur, hbk⟩
end Go.Proofs.YtihobnheficpjaaGreatDoor
namespace Go.Proofs.YtihobnheficpjaaGreatDoor
theorem putRow_at (S : List Int) (x : Int) (j : Nat) (h1 : ∀ y ∈ S.take j, ¬ x < y) (h2 : ∀ y ∈ S.drop j, x < y) : putRow S x = S.take j ++ x :: S.drop j := by
  induction S generalizing j with
  | nil => simp [putRow]
  | cons y ys ih =>
    match j with
    | 0 =>
      have := h2 y (by simp)
      unfold putRow
      rw [if_pos this]
      rfl
    | j + 1 =>
      have := h1 y (by simp)
      unfold putRow
      rw [if_neg this, ih j (fun z hz => h1 z (by simp [hz])) (fun z hz => h2 z (by simpa using hz))]
      rfl
/-- While x = l[i] is moved to its place among the first i ones: it is at place j. -/
def insAt (l : List Int) (i j : Nat) (x : Int) : List Int := (sortRow (l.take i)).take j ++ x :: ((sortRow (l.take i)).drop j ++ l.drop (i + 1))
def sortTo (l : List Int) (i : Nat) : List Int := sortRow (l.take i) ++ l.drop i
theorem sortRow_snoc (l : List Int) (x : Int) : sortRow (l ++ [x]) = putRow (sortRow l) x := by
  unfold sortRow
  rw [List.foldl_append]
  rfl
theorem sortTo_len (l : List Int) (i : Nat) : (sortTo l i).length = l.length := by
  unfold sortTo
  rw [List.length_append, sortRow_len, List.length_take, List.length_drop]
  omega
theorem insAt_len {l : List Int} {i j : Nat} {x : Int} (hi : i < l.length) (hj : j ≤ i) : (insAt l i j x).length = l.length := by
  unfold insAt
  rw [List.length_append, List.length_cons, List.length_append, List.length_take, List.length_drop, List.length_drop, sortRow_len, List.length_take]
  omega
theorem sortTo_zero (l : List Int) : sortTo l 0 = l := by simp [sortTo, sortRow]
theorem sortTo_one (l : List Int) : sortTo l 1 = l := by
  cases l with
  | nil => rfl
  | cons x xs => simp [sortTo, sortRow, putRow]
theorem sortTo_all (l : List Int) {i : Nat} (h : l.length ≤ i) : sortTo l i = sortRow l := by
  unfold sortTo
  rw [List.take_of_length_le h, List.drop_of_length_le h, List.append_nil]
theorem insAt_begin {l : List Int} {i : Nat} {x : Int} (h : l[i]? = some x) : sortTo l i = insAt l i i x := by
  obtain ⟨hi, rfl⟩ := List.getElem?_eq_some_iff.1 h
  have hl : (sortRow (l.take i)).length = i := by rw [sortRow_len, List.length_take]; omega
  unfold sortTo insAt
  rw [List.take_of_length_le (l := sortRow (l.take i)) (by omega), List.drop_of_length_le (l := sortRow (l.take i)) (by omega), List.nil_append, List.drop_eq_getElem_cons hi]
theorem insAt_get {l : List Int} {i j : Nat} {x : Int} (hi : i < l.length) (hj : j ≤ i) : (insAt l i j x)[j]? = some x := by
  have hl : (sortRow (l.take i)).length = i := by rw [sortRow_len, List.length_take]; omega
  unfold insAt
  rw [List.getElem?_append_right (by rw [List.length_take]; omega), List.length_take, show j - min j (sortRow (l.take i)).length = 0 by omega]
  rfl
theorem insAt_prev {l : List Int} {i j : Nat} {x : Int} (hi : i < l.length) (hj : j ≤ i) (h0 : 0 < j) : ∃ y, (insAt l i j x)[j - 1]? = some y ∧ (sortRow (l.take i))[j - 1]? = some y := by
  have hl : (sortRow (l.take i)).length = i := by rw [sortRow_len, List.length_take]; omega
  refine ⟨(sortRow (l.take i))[j - 1], ?_, List.getElem?_eq_getElem (by omega)⟩
  unfold insAt
  rw [List.getElem?_append_left (by rw [List.length_take]; omega), List.getElem?_take, if_pos (by omega)]
  exact List.getElem?_eq_getElem (by omega)
theorem set_swap (P Q : List Int) (y x : Int) : ((P ++ y :: x :: Q).set (P.length + 1) y).set P.length x = P ++ x :: y :: Q := by
  rw [List.set_append_right _ _ (by omega), show P.length + 1 - P.length = 1 by omega, List.set_append_right _ _ (by omega), Nat.sub_self]
  rfl
theorem insAt_swap {l : List Int} {i j : Nat} {x y : Int} (hi : i < l.length) (hj : j ≤ i) (h0 : 0 < j) (hy : (sortRow (l.take i))[j - 1]? = some y) : ((insAt l i j x).set j y).set (j - 1) x = insAt l i (j - 1) x := by
  have hl : (sortRow (l.take i)).length = i := by rw [sortRow_len, List.length_take]; omega
  obtain ⟨k, rfl⟩ : ∃ k, j = k + 1 := ⟨j - 1, by omega⟩
  simp only [Nat.add_sub_cancel] at hy ⊢
  obtain ⟨hk, hy'⟩ := List.getElem?_eq_some_iff.1 hy
  have e1 : insAt l i (k + 1) x = (sortRow (l.take i)).take k ++ y :: x :: ((sortRow (l.take i)).drop (k + 1) ++ l.drop (i + 1)) := by
    unfold insAt
    rw [List.take_succ_eq_append_getElem hk, hy', List.append_assoc]
    rfl
  have e2 : insAt l i k x = (sortRow (l.take i)).take k ++ x :: y :: ((sortRow (l.take i)).drop (k + 1) ++ l.drop (i + 1)) := by
    unfold insAt
    rw [List.drop_eq_getElem_cons hk, hy']
    rfl
  rw [e1, e2]
  have := set_swap ((sortRow (l.take i)).take k) ((sortRow (l.take i)).drop (k + 1) ++ l.drop (i + 1)) y x
  rw [List.length_take, show min k (sortRow (l.take i)).length = k by omega] at this
  exact this
theorem insAt_end {l : List Int} {i j : Nat} {x : Int} (h : l[i]? = some x) (hj : j ≤ i) (h1 : j = 0 ∨ ∃ y, (sortRow (l.take i))[j - 1]? = some y ∧ ¬ x < y) (h2 : ∀ y ∈ (sortRow (l.take i)).drop j, x < y) : insAt l i j x = sortTo l (i + 1) := by
  obtain ⟨hi, hx⟩ := List.getElem?_eq_some_iff.1 h
  have hl : (sortRow (l.take i)).length = i := by rw [sortRow_len, List.length_take]; omega
  have hs := sortRow_sorted (l.take i)
  have h3 : ∀ y ∈ (sortRow (l.take i)).take j, ¬ x < y := by
    intro y hy
    rcases h1 with rfl | ⟨z, hz, hzx⟩
    · simp at hy
    · obtain ⟨a, ha, rfl⟩ := List.mem_take_iff_getElem.1 hy
      obtain ⟨hk, rfl⟩ := List.getElem?_eq_some_iff.1 hz
      by_cases e : a = j - 1
      · subst e
        exact hzx
      · have := List.pairwise_iff_getElem.1 hs a (j - 1) (by omega) hk (by omega)
        omega
  unfold insAt sortTo
  rw [List.take_succ_eq_append_getElem hi, hx, sortRow_snoc, putRow_at _ _ j h3 h2, List.append_assoc]
  rfl
theorem drop_more {S : List Int} {j : Nat} {x y : Int} (h0 : 0 < j) (hy : S[j - 1]? = some y) (hx : x < y) (h : ∀ z ∈ S.drop j, x < z) : ∀ z ∈ S.drop (j - 1), x < z := by
  obtain ⟨hk, rfl⟩ := List.getElem?_eq_some_iff.1 hy
  intro z hz
  rw [List.drop_eq_getElem_cons hk, show j - 1 + 1 = j by omega] at hz
  rcases List.mem_cons.1 hz with rfl | hz
  · exact hx
  · exact h z hz
/-- m is l with the first k and the last k ones exchanged. -/
def RevTo (l m : List Int) (k : Nat) : Prop := m.length = l.length ∧ ∀ i, i < l.length → m[i]? = if i < k ∨ l.length - k ≤ i then l[l.length - 1 - i]? else l[i]?
theorem RevTo.zero (l : List Int) : RevTo l l 0 := ⟨rfl, fun i hi => by rw [if_neg (by omega)]⟩
theorem RevTo.step {l m : List Int} {k : Nat} {x y : Int} (h : RevTo l m k) (hk : k < l.length - 1 - k) (hx : m[k]? = some x) (hy : m[l.length - 1 - k]? = some y) : RevTo l ((m.set k y).set (l.length - 1 - k) x) (k + 1) := by
  obtain ⟨h1, h2⟩ := h
  have ex := h2 k (by omega)
  have ey := h2 (l.length - 1 - k) (by omega)
  rw [if_neg (by omega), hx] at ex
  rw [if_neg (by omega), hy] at ey
  refine ⟨by simp [h1], fun i hi => ?_⟩
  rw [List.getElem?_set, List.length_set, List.getElem?_set]
  by_cases e1 : l.length - 1 - k = i
  · rw [if_pos e1, if_pos (by omega), if_pos (by omega), ← e1, show l.length - 1 - (l.length - 1 - k) = k by omega]
    exact ex
  · rw [if_neg e1]
    by_cases e2 : k = i
    · subst e2
      rw [if_pos rfl, if_pos (by omega), if_pos (by omega)]
      exact ey
    · rw [if_neg e2, h2 i hi]
      by_cases e3 : i < k ∨ l.length - k ≤ i
      · rw [if_pos e3, if_pos (by omega)]
      · rw [if_neg e3, if_neg (by omega)]
theorem RevTo.done {l m : List Int} {k : Nat} (h : RevTo l m k) (hk : l.length - 1 - k ≤ k) : m = l.reverse := by
  obtain ⟨h1, h2⟩ := h
  apply List.ext_getElem?
  intro i
  by_cases hi : i < l.length
  · rw [h2 i hi, List.getElem?_reverse hi]
    split
    · rfl
    · rename_i hn
      congr 1
      omega
  · rw [List.getElem?_eq_none (by omega), List.getElem?_eq_none (by simp; omega)]
end Go.Proofs.YtihobnheficpjaaGreatDoor
