/- Walks: the laws' copies of rows of rows: sizes, copies, comparisons; rows of rows of the call's own, no two in one block. · Words for memory: crews. Conditions: none. · Walks: spec.l6In, spec.RowValid. -/
import Derived.Test.YtihobnheficpjaaGreatM06
import Derived.Test.YtihobnheficpjaaGreatM05
import Derived.Deep.RegionHeld3
import Derived.Test.YtihobnheficpjaaGreatM04
import Derived.Deep.LoopGhost
import Derived.Test.YtihobnheficpjaaGreatM01
namespace Go.Proofs.YtihobnheficpjaaGreat
open Go.RowKit

/-- A slice of rows that lies below block B0: a part of an argument. -/
def ArgL (B0 : Nat) (w : World) (v : Value) (ll : List (List Int)) : Prop :=
  ∃ A n c, v = .slice A n c ∧ n ≤ c ∧ n = ll.length ∧ n ≤ 9223372036854775807 ∧ ∀ k l, ll[k]? = some l → ∃ g o u, A = some ⟨g, o, none⟩ ∧ g < B0 ∧ w.cell? ⟨g, o + k, none⟩ = some u ∧ ArgI B0 w u l
section
variable {B0 : Nat} {w w' : World} {v : Value} {ll : List (List Int)}
theorem ArgL.kept {row : Option Nat} (h : ArgL B0 w v ll) (hg : w.grownBy w' row) (hB : B0 ≤ w.heap.size) (hr : ∀ g, row = some g → B0 ≤ g) : ArgL B0 w' v ll := by
  obtain ⟨A, n, c, h1, h2, h3, h4, h5⟩ := h
  refine ⟨A, n, c, h1, h2, h3, h4, fun k l hx => ?_⟩
  obtain ⟨g, o, u, k1, k2, k3, k4⟩ := h5 k l hx
  refine ⟨g, o, u, k1, k2, ?_, k4.kept hg hB hr⟩
  rw [gb_cell hg (by show g < _; omega) (fun e => by have := hr _ e; simp at this; omega)]
  exact k3
theorem ArgL.new (h : ArgL B0 w v ll) (hg : w.grownBy w' none) (hB : B0 ≤ w.heap.size) : ArgL B0 w' v ll := h.kept hg hB (fun _ e => by cases e)
theorem ArgL.form (h : ArgL B0 w v ll) : ∃ A n c, v = .slice A n c ∧ n ≤ c ∧ n = ll.length ∧ n ≤ 9223372036854775807 := by
  obtain ⟨A, n, c, h1, h2, h3, h4, _⟩ := h
  exact ⟨A, n, c, h1, h2, h3, h4⟩
theorem ArgL.at_ {A : Option Addr} {n c k : Nat} (h : ArgL B0 w (.slice A n c) ll) (hk : k < n) : ∃ g o l u, A = some ⟨g, o, none⟩ ∧ g < B0 ∧ ll[k]? = some l ∧ w.cell? ⟨g, o + k, none⟩ = some u ∧ ArgI B0 w u l := by
  obtain ⟨A', n', c', h1, h2, h3, h4, h5⟩ := h
  injection h1 with e1 e2 e3
  subst e1 e2 e3
  have hx : ll[k]? = some ll[k] := List.getElem?_eq_getElem (by omega)
  obtain ⟨g, o, u, k1, k2, k3, k4⟩ := h5 k _ hx
  exact ⟨g, o, _, u, k1, k2, hx, k3, k4⟩
end

/-- No two of the values have one block. -/
def Apart (ys : List Value) : Prop := ys.Pairwise fun u u' => ∀ g, u.ownBlock = some g → u'.ownBlock ≠ some g
theorem Apart.iff {ys : List Value} : Apart ys ↔ ∀ (i j : Nat) (u u' : Value) (g : Nat), i < j → ys[i]? = some u → ys[j]? = some u' → u.ownBlock = some g → u'.ownBlock ≠ some g := by
  unfold Apart
  rw [List.pairwise_iff_getElem]
  constructor
  · intro h i j u u' g hij hu hu' hg
    obtain ⟨a1, rfl⟩ := List.getElem?_eq_some_iff.1 hu
    obtain ⟨b1, rfl⟩ := List.getElem?_eq_some_iff.1 hu'
    exact h i j a1 b1 hij g hg
  · intro h i j hi hj hij g hg
    exact h i j _ _ g hij (List.getElem?_eq_getElem hi) (List.getElem?_eq_getElem hj) hg
theorem Apart.set {xs : List Value} {k s : Nat} {f : Value} (h : Apart xs) (hlt : ∀ u ∈ xs, ∀ g, u.ownBlock = some g → g < s) (hf : ∀ g, f.ownBlock = some g → s ≤ g) : Apart (xs.set k f) := by
  rw [Apart.iff] at *
  intro i j u u' g hij hu hu' hg hg'
  rw [List.getElem?_set] at hu hu'
  split at hu
  · split at hu
    · cases hu
      rw [if_neg (by omega)] at hu'
      have := hlt u' (List.mem_of_getElem? hu') g hg'
      have := hf g hg
      omega
    · cases hu
  · split at hu'
    · split at hu'
      · cases hu'
        have := hlt u (List.mem_of_getElem? hu) g hg
        have := hf g hg'
        omega
      · cases hu'
    · exact h i j u u' g hij hu hu' hg hg'
theorem Apart.nils (n : Nat) : Apart (List.replicate n (.slice none 0 0)) := by
  rw [Apart.iff]
  intro i j u u' g _ hu _ hg
  rw [List.getElem?_replicate] at hu
  split at hu
  · cases hu
    cases hg
  · cases hu
theorem Apart.join {xs ys : List Value} {s : Nat} (h1 : Apart xs) (h2 : Apart ys) (hx : ∀ u ∈ xs, ∀ g, u.ownBlock = some g → g < s) (hy : ∀ u ∈ ys, ∀ g, u.ownBlock = some g → s ≤ g) : Apart (xs ++ ys) := by
  unfold Apart at *
  rw [List.pairwise_append]
  refine ⟨h1, h2, fun a ha b hb g hg hg' => ?_⟩
  have := hx a ha g hg
  have := hy b hb g hg'
  omega
theorem Apart.one (u : Value) : Apart [u] := List.pairwise_singleton _ _
theorem Apart.left {xs ys : List Value} (h : Apart (xs ++ ys)) : Apart xs := (List.pairwise_append.1 h).1
theorem Apart.right {xs ys : List Value} (h : Apart (xs ++ ys)) : Apart ys := (List.pairwise_append.1 h).2.1

/-- A row of rows of the call's own, with its elements' values. -/
def LX (w : World) (base : Nat) (v : Value) (ll : List (List Int)) (xs : List Value) : Prop :=
  w.ownsRow base 25 1 v ll.length xs ∧ ∀ (i : Nat) (l : List Int), ll[i]? = some l → ∃ u, xs[i]? = some u ∧ OwnI w base u l
/-- A row of rows, all of the call's own, no two in one block. -/
def OwnLO (w : World) (base : Nat) (v : Value) (ll : List (List Int)) : Prop := ∃ xs, LX w base v ll xs ∧ Apart xs
section
variable {w w' : World} {v : Value} {ll : List (List Int)} {base : Nat} {row : Option Nat} {xs : List Value}
theorem LX.grown (h : LX w base v ll xs) (hg : w.grownBy w' row) (hr : NotE w 3 row) (hr' : NotE w 25 row) : LX w' base v ll xs := by
  refine ⟨own_grown h.1 hg hr', fun i l hi => ?_⟩
  obtain ⟨u, k1, k2⟩ := h.2 i l hi
  exact ⟨u, k1, k2.grown hg hr⟩
theorem LX.new (h : LX w base v ll xs) (hg : w.grownBy w' none) : LX w' base v ll xs := h.grown hg (NotE.none _ _) (NotE.none _ _)
theorem LX.rl (h : LX w base v ll xs) : RL w v ll := ⟨xs, TS.of_own h.1, fun i l hi => let ⟨u, k1, k2⟩ := h.2 i l hi; ⟨u, k1, k2.ri⟩⟩
theorem LX.lt (h : LX w base v ll xs) : ∀ g, v.ownBlock = some g → base ≤ g ∧ g < w.heap.size := World.ownsRow.lt h.1
theorem LX.len (h : LX w base v ll xs) : xs.length = ll.length := by have := h.1.1; omega
theorem LX.lts (h : LX w base v ll xs) : ∀ u ∈ xs, ∀ g, u.ownBlock = some g → base ≤ g ∧ g < w.heap.size := by
  intro u hu g hg
  obtain ⟨i, hi, rfl⟩ := List.getElem_of_mem hu
  have hl := h.len
  obtain ⟨u', k1, k2⟩ := h.2 i _ (List.getElem?_eq_getElem (by omega))
  rw [List.getElem?_eq_getElem hi] at k1
  cases k1
  exact k2.lt g hg
theorem LX.nil (w : World) (base : Nat) : LX w base (.slice none 0 0) [] [] := ⟨World.ownsRow_nil _ _ _ _, fun i nd h => by simp at h⟩
theorem LX.low {a b : Nat} (h : LX w a v ll xs) (hab : b ≤ a) : LX w b v ll xs := by
  refine ⟨⟨h.1.1, ?_⟩, fun i l hi => let ⟨u, k1, k2⟩ := h.2 i l hi; ⟨u, k1, k2.lower hab⟩⟩
  rcases h.1.2 with h0 | ⟨g, cap, cur, h1, h2, h3⟩
  · exact .inl h0
  · exact .inr ⟨g, cap, cur, h1, Nat.le_trans hab h2, h3⟩
theorem OwnLO.grown (h : OwnLO w base v ll) (hg : w.grownBy w' row) (hr : NotE w 3 row) (hr' : NotE w 25 row) : OwnLO w' base v ll := let ⟨xs, h1, h2⟩ := h; ⟨xs, h1.grown hg hr hr', h2⟩
theorem OwnLO.new (h : OwnLO w base v ll) (hg : w.grownBy w' none) : OwnLO w' base v ll := h.grown hg (NotE.none _ _) (NotE.none _ _)
theorem OwnLO.rl (h : OwnLO w base v ll) : RL w v ll := let ⟨_, h1, _⟩ := h; h1.rl
theorem OwnLO.lt (h : OwnLO w base v ll) : ∀ g, v.ownBlock = some g → base ≤ g ∧ g < w.heap.size := let ⟨_, h1, _⟩ := h; h1.lt
theorem OwnLO.nil (w : World) (base : Nat) : OwnLO w base (.slice none 0 0) [] := ⟨[], LX.nil _ _, .nil⟩
theorem OwnLO.low {a b : Nat} (h : OwnLO w a v ll) (hab : b ≤ a) : OwnLO w b v ll := let ⟨xs, h1, h2⟩ := h; ⟨xs, h1.low hab, h2⟩
end
theorem LX.cell {w : World} {base g n cap k : Nat} {ll : List (List Int)} {xs : List Value} (h : LX w base (.slice (some ⟨g, 0, none⟩) n cap) ll xs) (hk : k < ll.length) : ∃ u, w.cell? ⟨g, k, none⟩ = some u ∧ w.frozen? ⟨g, k, none⟩ = false := by
  rcases h.1.2 with ⟨e0, hz⟩ | ⟨g', cap', cur, e0, hb, hh, hn, hm, hcs, ht⟩
  · cases e0
  · injection e0 with e1 e2 e3
    injection e1 with e1
    injection e1 with e1
    subst e1 e3
    have hB : Blk w g 25 cur := hh
    refine ⟨cur[k]'(by rw [hcs]; omega), ?_, hB.frozen _⟩
    rw [hB.cell]
    exact Array.getElem?_eq_getElem (by rw [hcs]; omega)
theorem LX.set_ {w : World} {base g n cap k : Nat} {ll : List (List Int)} {l : List Int} {f : Value} {xs : List Value} (h : LX w base (.slice (some ⟨g, 0, none⟩) n cap) ll xs) (hk : k < ll.length) (hf : OwnI w base f l) :
    LX (w.setCell ⟨g, k, none⟩ f) base (.slice (some ⟨g, 0, none⟩) n cap) (ll.set k l) (xs.set k f) := by
  have hxl := h.len
  obtain ⟨h1, h2⟩ := h
  have hn : n = ll.length := by
    rcases h1.2 with ⟨e0, hz⟩ | ⟨g', cap', cur, e0, _⟩
    · cases e0
    · injection e0
  subst hn
  have s1 := World.ownsRow.stored h1 k f
  have hne : NotE w 3 (some g) := NotE.own (v := .slice (some ⟨g, 0, none⟩) ll.length cap) h1 (by decide)
  refine ⟨by rw [List.length_set]; exact s1.1, fun i x hi => ?_⟩
  by_cases hik : i = k
  · subst hik
    rw [List.getElem?_set_self hk] at hi
    obtain rfl : l = x := by simpa using hi
    exact ⟨f, by rw [List.getElem?_set_self (by omega)], hf.grown s1.2 hne⟩
  · rw [List.getElem?_set_ne (fun e => hik e.symm)] at hi
    obtain ⟨u, k1, k2⟩ := h2 i x hi
    exact ⟨u, by rw [List.getElem?_set_ne (fun e => hik e.symm)]; exact k1, k2.grown s1.2 hne⟩
theorem OwnLO.cell {w : World} {base g n cap k : Nat} {ll : List (List Int)} (h : OwnLO w base (.slice (some ⟨g, 0, none⟩) n cap) ll) (hk : k < ll.length) : ∃ u, w.cell? ⟨g, k, none⟩ = some u ∧ w.frozen? ⟨g, k, none⟩ = false := let ⟨_, h1, _⟩ := h; h1.cell hk
/-- A row made behind the others is put into it. -/
theorem OwnLO.set_ {a w : World} {base g n cap k : Nat} {ll : List (List Int)} {l : List Int} {f : Value} (h : OwnLO a base (.slice (some ⟨g, 0, none⟩) n cap) ll) (hg : a.grownBy w none) (hb : base ≤ a.heap.size) (hk : k < ll.length) (hf : OwnI w a.heap.size f l) :
    OwnLO (w.setCell ⟨g, k, none⟩ f) base (.slice (some ⟨g, 0, none⟩) n cap) (ll.set k l) := by
  obtain ⟨xs, h1, h2⟩ := h
  exact ⟨xs.set k f, (h1.new hg).set_ hk (hf.lower hb), h2.set (fun u hu g hg => (h1.lts u hu g hg).2) (fun g hg => (hf.lt g hg).1)⟩
theorem OwnLO.made {w : World} {base n : Nat} {v : Value} (h : w.ownsRow base 25 1 v n (madeCells (Value.slice none 0 0).cells n).toList) : OwnLO w base v (List.replicate n []) := by
  have hc : (madeCells (Value.slice none 0 0).cells n).toList = List.replicate n (.slice none 0 0) := by
    have hc0 : (Value.slice none 0 0).cells = #[.slice none 0 0] := rfl
    rw [hc0]
    apply List.ext_getElem?
    intro i
    rw [List.getElem?_replicate]
    by_cases hi : i < n
    · simp [madeCells, hi, Nat.mod_one]
    · simp [madeCells, hi]
  rw [hc] at h
  refine ⟨_, ⟨by rw [List.length_replicate]; exact h, fun i l hi => ?_⟩, Apart.nils n⟩
  obtain ⟨hin, rfl⟩ : i < n ∧ l = [] := by
    rw [List.getElem?_replicate] at hi
    split at hi
    · exact ⟨by assumption, by injection hi with e; exact e.symm⟩
    · cases hi
  exact ⟨.slice none 0 0, by simp [hin], OwnI.nil _ _⟩
/-- All of a row of rows is short. -/
def fitsL (ll : List (List Int)) : Prop := ll.length ≤ 1048576 ∧ ∀ l ∈ ll, l.length ≤ 1048576

end Go.Proofs.YtihobnheficpjaaGreat
namespace Go.Proofs.YtihobnheficpjaaGreat
open Go.RowKit

/-- The first k of a slice of integers. -/
theorem RI.take {w : World} {A : Option Addr} {n c k : Nat} {l : List Int} (h : RI w (.slice A n c) l) (hk : k ≤ n) : RI w (.slice A k c) (l.take k) := by
  obtain ⟨h0, A', c', e, h2, h3, h4, h5⟩ := h
  injection e with e1 e2 e3
  subst e1 e3
  have hl : l.length = n := e2.symm
  refine ⟨?_, A, c, ?_, by rw [List.length_take]; omega, h3, h4, ?_⟩
  · rw [List.length_map, List.length_take]; omega
  · rw [List.length_take, Nat.min_eq_left (by omega)]
  · rcases h5 with h5 | ⟨g, o, cur, hA, hb, hc⟩
    · exact .inl (by rw [List.length_take]; omega)
    · refine .inr ⟨g, o, cur, hA, hb, fun j u hu => hc j u ?_⟩
      rw [List.getElem?_map, List.getElem?_take] at hu
      split at hu
      · rw [List.getElem?_map]; exact hu
      · cases hu
theorem cell_lt {w : World} {a : Addr} {v : Value} (h : w.cell? a = some v) : a.block < w.heap.size := by
  unfold World.cell? at h
  split at h
  · rename_i hb; exact (Array.getElem?_eq_some_iff.1 hb).1
  · cases h
theorem cell_new {w w' : World} {a : Addr} {v : Value} (h : w.cell? a = some v) (hg : w.grownBy w' none) : w'.cell? a = some v := (gb_cell hg (cell_lt h) (by simp)).trans h
/-- A list of rows of the call's own stands where another block turns. -/
theorem OwnL.far {w w' : World} {base g : Nat} {v : Value} {ll : List (List Int)} (h : OwnL w base v ll) (hg : w.grownBy w' (some g)) (hi : NotE w 3 (some g)) (hne : v.ownBlock ≠ some g) : OwnL w' base v ll := by
  obtain ⟨xs, h1, h2⟩ := h
  have hlt := World.ownsRow.lt h1
  refine ⟨xs, ⟨h1.1, ?_⟩, fun i l hl => let ⟨u, k1, k2⟩ := h2 i l hl; ⟨u, k1, k2.grown hg hi⟩⟩
  rcases h1.2 with h0 | ⟨g', cap, cur, rfl, k2, k3, k4⟩
  · exact .inl h0
  · exact .inr ⟨g', cap, cur, rfl, k2, (hg.block g' (hlt g' rfl).2 (fun e => hne (by rw [← e]; rfl))).trans k3, k4⟩
/-- A crew by value. -/
def CV (w : World) (v : Value) (c : Crew) : Prop := ∃ d k o r, v = .agg #[d, k, o, r] ∧ RL w d c.deques ∧ RI w k c.counts ∧ RI w o c.done ∧ RL w r c.rows
theorem CV.grown {w w' : World} {v : Value} {c : Crew} {row : Option Nat} (h : CV w v c) (hg : w.grownBy w' row) (hr : NotE w 3 row) (hr' : NotE w 25 row) : CV w' v c := by
  obtain ⟨d, k, o, r, rfl, h1, h2, h3, h4⟩ := h
  exact ⟨d, k, o, r, rfl, h1.grown hg hr hr', h2.grown hg hr, h3.grown hg hr, h4.grown hg hr hr'⟩
theorem CV.new {w w' : World} {v : Value} {c : Crew} (h : CV w v c) (hg : w.grownBy w' none) : CV w' v c := h.grown hg (NotE.none _ _) (NotE.none _ _)
/-- The parts of a crew, each a slice. -/
theorem CV.form {w : World} {v : Value} {c : Crew} (h : CV w v c) : ∃ A1 n1 c1 A2 n2 c2 A3 n3 c3 A4 n4 c4, v = .agg #[.slice A1 n1 c1, .slice A2 n2 c2, .slice A3 n3 c3, .slice A4 n4 c4] ∧
    RL w (.slice A1 n1 c1) c.deques ∧ RI w (.slice A2 n2 c2) c.counts ∧ RI w (.slice A3 n3 c3) c.done ∧ RL w (.slice A4 n4 c4) c.rows := by
  obtain ⟨d, k, o, r, rfl, h1, h2, h3, h4⟩ := h
  obtain ⟨A1, n1, c1, rfl⟩ := h1.val
  obtain ⟨A2, n2, c2, rfl⟩ := h2.val
  obtain ⟨A3, n3, c3, rfl⟩ := h3.val
  obtain ⟨A4, n4, c4, rfl⟩ := h4.val
  exact ⟨_, _, _, _, _, _, _, _, _, _, _, _, rfl, h1, h2, h3, h4⟩
/-- A crew that stands in block g. -/
structure BoxC (w : World) (g : Nat) (d k o r : Value) (c : Crew) : Prop where
  b : Blk w g 27 #[d, k, o, r]
  dq : RL w d c.deques
  ct : RI w k c.counts
  dn : RI w o c.done
  ro : RL w r c.rows
section
variable {w w' : World} {g : Nat} {d k o r : Value} {c : Crew}
theorem BoxC.new (h : BoxC w g d k o r c) (hg : w.grownBy w' none) : BoxC w' g d k o r c := ⟨h.b.grown hg (by simp), h.dq.new hg, h.ct.new hg, h.dn.new hg, h.ro.new hg⟩
theorem BoxC.cv (h : BoxC w g d k o r c) : CV w (.agg #[d, k, o, r]) c := ⟨d, k, o, r, rfl, h.dq, h.ct, h.dn, h.ro⟩
theorem BoxC.d0 (h : BoxC w g d k o r c) : w.cell? ⟨g, 0, none⟩ = some d := h.b.cell 0
theorem BoxC.d1 (h : BoxC w g d k o r c) : w.cell? ⟨g, 1, none⟩ = some k := h.b.cell 1
theorem BoxC.d2 (h : BoxC w g d k o r c) : w.cell? ⟨g, 2, none⟩ = some o := h.b.cell 2
theorem BoxC.d3 (h : BoxC w g d k o r c) : w.cell? ⟨g, 3, none⟩ = some r := h.b.cell 3
theorem CV.box {w : World} {d k o r : Value} {c : Crew} (h : CV w (.agg #[d, k, o, r]) c) : BoxC (w.alloc (.cells #[d, k, o, r] 27)) w.heap.size d k o r c := by
  obtain ⟨d', k', o', r', e, h1, h2, h3, h4⟩ := h
  have hg := World.grownBy_alloc w (.cells #[d, k, o, r] 27) none
  injection e with e
  injection e with e
  injection e with e1 e
  injection e with e2 e
  injection e with e3 e
  injection e with e4 e
  subst e1 e2 e3 e4
  exact ⟨Blk.new _ _ _, h1.new hg, h2.new hg, h3.new hg, h4.new hg⟩
end
def crew0 : Crew := ⟨[], [], [], []⟩
theorem CV.zero (w : World) : CV w (.agg #[.slice none 0 0, .slice none 0 0, .slice none 0 0, .slice none 0 0]) crew0 := ⟨_, _, _, _, rfl, RL.nil w, RI.nil w, RI.nil w, RL.nil w⟩
/-- A crew of the call's own: its rows and deques lie in blocks apart. -/
def OwnC (w : World) (base : Nat) (v : Value) (c : Crew) : Prop :=
  ∃ d k o r xs ys, v = .agg #[d, k, o, r] ∧ LX w base d c.deques xs ∧ RI w k c.counts ∧ OwnI w base o c.done ∧ LX w base r c.rows ys ∧ Apart (o :: (xs ++ ys)) ∧ (∀ g, d.ownBlock = some g → r.ownBlock ≠ some g)
theorem OwnC.cv {w : World} {base : Nat} {v : Value} {c : Crew} (h : OwnC w base v c) : CV w v c := by
  obtain ⟨d, k, o, r, xs, ys, rfl, h1, h2, h3, h4, _⟩ := h
  exact ⟨d, k, o, r, rfl, h1.rl, h2, h3.ri, h4.rl⟩
theorem OwnC.new {w w' : World} {base : Nat} {v : Value} {c : Crew} (h : OwnC w base v c) (hg : w.grownBy w' none) : OwnC w' base v c := by
  obtain ⟨d, k, o, r, xs, ys, rfl, h1, h2, h3, h4, h5⟩ := h
  exact ⟨d, k, o, r, xs, ys, rfl, h1.new hg, h2.new hg, h3.new hg, h4.new hg, h5⟩
theorem OwnC.grown {w w' : World} {base : Nat} {v : Value} {c : Crew} {row : Option Nat} (h : OwnC w base v c) (hg : w.grownBy w' row) (hr : NotE w 3 row) (hr' : NotE w 25 row) : OwnC w' base v c := by
  obtain ⟨d, k, o, r, xs, ys, rfl, h1, h2, h3, h4, h5⟩ := h
  exact ⟨d, k, o, r, xs, ys, rfl, h1.grown hg hr hr', h2.grown hg hr, h3.grown hg hr, h4.grown hg hr hr', h5⟩
theorem OwnC.low {w : World} {a b : Nat} {v : Value} {c : Crew} (h : OwnC w a v c) (hab : b ≤ a) : OwnC w b v c := by
  obtain ⟨d, k, o, r, xs, ys, rfl, h1, h2, h3, h4, h5⟩ := h
  exact ⟨d, k, o, r, xs, ys, rfl, h1.low hab, h2, h3.lower hab, h4.low hab, h5⟩
/-- A list of rows stands where another block of rows turns. -/
theorem LX.far {w w' : World} {base g : Nat} {v : Value} {ll : List (List Int)} {xs : List Value} (h : LX w base v ll xs) (hg : w.grownBy w' (some g)) (hi : NotE w 3 (some g)) (hne : v.ownBlock ≠ some g) : LX w' base v ll xs := by
  obtain ⟨h1, h2⟩ := h
  have hlt := World.ownsRow.lt h1
  refine ⟨⟨h1.1, ?_⟩, fun i l hl => let ⟨u, k1, k2⟩ := h2 i l hl; ⟨u, k1, k2.grown hg hi⟩⟩
  rcases h1.2 with h0 | ⟨g', cap, cur, rfl, k2, k3, k4⟩
  · exact .inl h0
  · exact .inr ⟨g', cap, cur, rfl, k2, (hg.block g' (hlt g' rfl).2 (fun e => hne (by rw [← e]; rfl))).trans k3, k4⟩
theorem LX.notE {w : World} {base : Nat} {v : Value} {ll : List (List Int)} {xs : List Value} (h : LX w base v ll xs) {E : TypeId} (hE : E ≠ 25) : NotE w E v.ownBlock := NotE.own h.1 hE
theorem LX.gb {a w w' : World} {row : Option Nat} {base : Nat} {v : Value} {ll : List (List Int)} {xs : List Value} (h : LX w base v ll xs) (hg : a.grownBy w row) (k : w.grownBy w' v.ownBlock) (hb : a.heap.size ≤ base) : a.grownBy w' row :=
  gb_new hg k (fun g e => .inl (Nat.le_trans hb (h.lt g e).1))
/-! The spec's small walks. -/
theorem l3Has_b (v : Value) (l : List Int) (x : Int) (w : World) (h : RI w v l) {b : Bool} (hb : decide (x ∈ l) = b) :
    Calls Tryz.prog 42 #[v, .int .i64 x] w fun e w' => e = .returned (.bool b) ∧ w = w' := by
  obtain ⟨A, n, c, rfl, _, hn⟩ := h.form'
  have hle := h.le
  rw [← hn] at hle
  have Hn := Lib.hid hn
  have Hb := Lib.hid hb
  clear hn hb
  go_enter Tryz.func42, Tryz.ntmps42
  go_wp2_with fail
  go_loopg [5] (n + 1) (fun mm i wr => ∃ k : Nat, k ≤ n ∧ mm = n + 1 - k ∧ i = .int .i64 k ∧ Hid (x ∉ l.take k) ∧ wr = w)
  case atStart => exact ⟨0, Nat.zero_le _, rfl, rfl, by show _ ∉ _; simp, rfl⟩
  case round =>
    obtain ⟨k, hk, rfl, rfl, Hk, rfl⟩ := hrel
    by_cases hlt : k < n
    · obtain ⟨g, o, y, rfl, hy, c0⟩ := h.at_ hlt
      have Hy := Lib.hid hy
      clear hy
      by_cases hyx : y = x
      · have hq : (y == x) = true := by simpa using hyx
        have Hr : Hid (b = true) := by
          show _ = _
          rw [← Hb.out, decide_eq_true_eq, ← hyx]
          exact List.mem_of_getElem? Hy.out
        clear hyx Hk
        go_wp2_with fail
        go_ret
        exact ⟨by rw [Hr.out]; rfl, rfl⟩
      · have hq : (y == x) = false := by simpa using hyx
        have Hs : Hid (x ∉ l.take (k + 1)) := by
          show _ ∉ _
          obtain ⟨h1, h2⟩ := List.getElem?_eq_some_iff.1 Hy.out
          rw [List.take_succ_eq_append_getElem h1, h2, List.mem_append]
          rintro (h3 | h3)
          · exact Hk.out h3
          · exact hyx (List.mem_singleton.1 h3).symm
        clear hyx Hk
        go_wp2_with fail
        go_roundg (n + 1 - (k + 1))
        case measure => omega
        case rel => exact ⟨k + 1, by omega, rfl, by go_num, Hs, rfl⟩
    · obtain rfl : k = n := by omega
      have Hr : Hid (b = false) := by
        show _ = _
        rw [← Hb.out, decide_eq_false_iff_not]
        have := Hk.out
        rwa [List.take_of_length_le (by rw [← Hn.out]; exact Nat.le_refl _)] at this
      clear Hk
      go_wp2_with fail
      go_ret
      exact ⟨by rw [Hr.out]; rfl, rfl⟩
theorem l5All_b (v v' : Value) (l m : List Int) (w : World) (h : RI w v l) (h' : RI w v' m) {b : Bool} (hb : (m.all fun f => decide (f ∈ l)) = b) :
    Calls Tryz.prog 60 #[v, v'] w fun e w' => e = .returned (.bool b) ∧ w = w' := by
  obtain ⟨A, n, c, rfl, _, hn⟩ := h'.form'
  obtain ⟨B, n', c', rfl⟩ := h.val
  have hle := h'.le
  rw [← hn] at hle
  have Hn := Lib.hid hn
  have Hb := Lib.hid hb
  clear hn hb
  go_enter Tryz.func60, Tryz.ntmps60
  go_wp2_with fail
  go_loopg [5] (n + 1) (fun mm i wr => ∃ k : Nat, k ≤ n ∧ mm = n + 1 - k ∧ i = .int .i64 k ∧ Hid (∀ f ∈ m.take k, f ∈ l) ∧ wr = w)
  case atStart => exact ⟨0, Nat.zero_le _, rfl, rfl, by show ∀ f ∈ _, _; simp, rfl⟩
  case round =>
    obtain ⟨k, hk, rfl, rfl, Hk, rfl⟩ := hrel
    by_cases hlt : k < n
    · obtain ⟨g, o, y, rfl, hy, c0⟩ := h'.at_ hlt
      have Hy := Lib.hid hy
      clear hy
      by_cases hyx : y ∈ l
      · have Hyx : Hid (decide (y ∈ l) = true) := decide_eq_true hyx
        have Hs : Hid (∀ f ∈ m.take (k + 1), f ∈ l) := by
          show ∀ f ∈ _, _
          obtain ⟨h1, h2⟩ := List.getElem?_eq_some_iff.1 Hy.out
          rw [List.take_succ_eq_append_getElem h1, h2]
          intro f hf
          rcases List.mem_append.1 hf with hf | hf
          · exact Hk.out f hf
          · obtain rfl : f = y := by simpa using hf
            exact hyx
        clear hyx Hk
        go_wp2_with fail
        refine (l3Has_b _ l y _ h Hyx.out).mono ?_
        rintro e w' ⟨rfl, rfl⟩
        go_wp2_with fail
        go_roundg (n + 1 - (k + 1))
        case measure => omega
        case rel => exact ⟨k + 1, by omega, rfl, by go_num, Hs, rfl⟩
      · have Hyx : Hid (decide (y ∈ l) = false) := decide_eq_false hyx
        have Hr : Hid (b = false) := by
          show _ = _
          rw [← Hb.out, List.all_eq_false]
          exact ⟨y, List.mem_of_getElem? Hy.out, by simpa using hyx⟩
        clear hyx Hk
        go_wp2_with fail
        refine (l3Has_b _ l y _ h Hyx.out).mono ?_
        rintro e w' ⟨rfl, rfl⟩
        go_wp2_with fail
        go_ret
        exact ⟨by rw [Hr.out]; rfl, rfl⟩
    · obtain rfl : k = n := by omega
      have Hr : Hid (b = true) := by
        show _ = _
        rw [← Hb.out, List.all_eq_true]
        have := Hk.out
        rw [List.take_of_length_le (by rw [← Hn.out]; exact Nat.le_refl _)] at this
        exact fun f hf => decide_eq_true (this f hf)
      clear Hk
      go_wp2_with fail
      go_ret
      exact ⟨by rw [Hr.out]; rfl, rfl⟩
end Go.Proofs.YtihobnheficpjaaGreat
namespace Go.Proofs.YtihobnheficpjaaGreat
open Go.RowKit

theorem l6In_any (n a b : Int) (w : World) :
    Calls Tryz.prog 19 #[.int .i64 n, .int .i64 a, .int .i64 b] w fun e w' => e = .returned (.bool (decide (a ≤ n) && decide (n ≤ b))) ∧ w = w' := by
  by_cases h : a ≤ n
  · rw [show (decide (a ≤ n) && decide (n ≤ b)) = decide (n ≤ b) by simp [h]]
    go_enter Tryz.func19, Tryz.ntmps19
    go_wp2
    go_ret
    exact ⟨rfl, rfl⟩
  · rw [show (decide (a ≤ n) && decide (n ≤ b)) = false by simp [h]]
    go_enter Tryz.func19, Tryz.ntmps19
    go_wp2
    go_ret
    exact ⟨rfl, rfl⟩

theorem specRowValid_any (v : Value) (l : List Int) (w : World) (h : RI w v l) :
    Calls Tryz.prog 84 #[v] w fun e w' => e = .returned (.bool (rowValid l)) ∧ w = w' := by
  obtain ⟨A, n, c, rfl, hc, hn⟩ := h.form'
  have hle := h.le
  rw [← hn] at hle
  have Hn := Lib.hid hn
  clear hn
  go_enter Tryz.func84, Tryz.ntmps84
  go_wp2
  go_loop [3] (fun i => ∃ k : Nat, k ≤ n ∧ i = .int .i64 k ∧ (l.take k).all inRow = true) (fun i => n - (intOf i).toNat)
  case atStart => exact ⟨0, Nat.zero_le _, rfl, rfl⟩
  case round =>
    obtain ⟨k, hk, rfl, hall⟩ := hrel
    have Hall := Lib.hid hall
    clear hall
    by_cases hlt : k < n
    · obtain ⟨g, o, x, rfl, hx, hcell⟩ := h.at_ hlt
      have Hx := Lib.hid hx
      clear hx
      go_wp2_with fail
      refine (l6In_any _ _ _ _).mono ?_
      rintro e w' ⟨rfl, rfl⟩
      by_cases hin : inRow x = true
      · have Hin := Lib.hid hin
        have hb : (decide ((0 : Int) ≤ x) && decide (x ≤ (1008 : Int))) = true := hin
        rw [hb]
        clear hin hb
        go_wp2_with fail
        go_round
        case rel => exact ⟨k + 1, by omega, by go_num, by rw [all_snoc _ Hx.out, Hall.out, Hin.out]; rfl⟩
        case measure => simp [intOf]; omega
      · have hb : (decide ((0 : Int) ≤ x) && decide (x ≤ (1008 : Int))) = false := by simpa [inRow] using hin
        have Hr : Hid (rowValid l = false) := by
          show rowValid l = false
          unfold rowValid
          rw [Bool.and_eq_false_iff]
          left
          rw [List.all_eq_false]
          exact ⟨x, List.mem_of_getElem? Hx.out, hin⟩
        rw [hb]
        clear hin hb
        go_wp2_with fail
        go_ret
        exact ⟨by rw [Hr.out]; rfl, rfl⟩
    · have hkn : k = n := by omega
      have Hr : Hid (rowValid l = decide ((n : Int) ≤ 6)) := by
        show rowValid l = decide ((n : Int) ≤ 6)
        have h1 := Hall.out
        rw [hkn, Hn.out, List.take_length] at h1
        rw [rowValid, h1, Hn.out, Bool.true_and]
        exact decide_eq_decide.2 (by omega)
      clear hkn
      go_wp2_with fail
      go_ret
      exact ⟨by rw [Hr.out]; rfl, rfl⟩
theorem specRowValid_b (v : Value) (l : List Int) (w : World) (h : RI w v l) {b : Bool} (hb : rowValid l = b) :
    Calls Tryz.prog 84 #[v] w fun e w' => e = .returned (.bool b) ∧ w = w' := hb ▸ specRowValid_any v l w h
theorem l6In_b (n a b : Int) (w : World) {c : Bool} (hc : (decide (a ≤ n) && decide (n ≤ b)) = c) :
    Calls Tryz.prog 19 #[.int .i64 n, .int .i64 a, .int .i64 b] w fun e w' => e = .returned (.bool c) ∧ w = w' := hc ▸ l6In_any n a b w

theorem specKindValid_any (k : Int) (w : World) :
    Calls Tryz.prog 109 #[.int .i64 k] w fun e w' => e = .returned (.bool (kindValid k)) ∧ w = w' := by
  go_enter Tryz.func109, Tryz.ntmps109
  go_wp2_with fail
  refine (l6In_any _ _ _ _).mono ?_
  rintro e w' ⟨rfl, rfl⟩
  go_wp2_with fail
  go_ret
  exact ⟨rfl, rfl⟩

theorem specKindNeeds_any (k : Int) (w : World) :
    Calls Tryz.prog 83 #[.int .i64 k] w fun e w' => e = .returned (.int .i64 (kindNeeds k)) ∧ w = w' := by
  by_cases hk : k < 0 ∨ 5 < k
  · have hv : kindValid k = false := by
      unfold kindValid
      simp only [Bool.and_eq_false_iff, decide_eq_false_iff_not]
      omega
    have H : Hid (kindNeeds k = -1) := by show kindNeeds k = -1; unfold kindNeeds; rw [if_pos hk]
    clear hk
    go_enter Tryz.func83, Tryz.ntmps83
    go_wp2_with fail
    refine (specKindValid_any _ _).mono ?_
    rw [hv]
    clear hv
    rintro e w' ⟨rfl, rfl⟩
    go_wp2_with fail
    go_ret
    exact ⟨by rw [H.out]; rfl, rfl⟩
  · rcases (show k = 0 ∨ k = 1 ∨ k = 2 ∨ k = 3 ∨ k = 4 ∨ k = 5 by omega) with rfl | rfl | rfl | rfl | rfl | rfl
    all_goals
      clear hk
      go_enter Tryz.func83, Tryz.ntmps83
      go_wp2_with fail
      refine (specKindValid_any _ _).mono ?_
      rintro e w' ⟨rfl, rfl⟩
      go_wp2_with fail
      go_ret
      exact ⟨rfl, rfl⟩
end Go.Proofs.YtihobnheficpjaaGreat
