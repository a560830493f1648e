/- Walks: the laws' copies of their arguments: sizes, copies, comparisons of rows of integers. · Walks: the laws' copies of plans: sizes, copies, comparisons. · Walks: the laws' copies of plans: toNode, toNodeS. -/
import Derived.Test.YtihobnheficpjaaGreatM05
namespace Go.Proofs.YtihobnheficpjaaGreat
open Go.RowKit

/-- A slice of the integers l that lies below block B0: a part of an argument. -/
def ArgI (B0 : Nat) (w : World) (v : Value) (l : List Int) : Prop :=
  ∃ A n c, v = .slice A n c ∧ n ≤ c ∧ n = l.length ∧ n ≤ 9223372036854775807 ∧ ∀ j x, l[j]? = some x → ∃ g o, A = some ⟨g, o, none⟩ ∧ g < B0 ∧ w.cell? ⟨g, o + j, none⟩ = some (.int .i64 x)
section
variable {B0 : Nat} {w w' : World} {v : Value} {l : List Int}
theorem ArgI.kept {row : Option Nat} (h : ArgI B0 w v l) (hg : w.grownBy w' row) (hB : B0 ≤ w.heap.size) (hr : ∀ g, row = some g → B0 ≤ g) : ArgI B0 w' v l := by
  obtain ⟨A, n, c, h1, h2, h3, h4, h5⟩ := h
  refine ⟨A, n, c, h1, h2, h3, h4, fun j x hx => ?_⟩
  obtain ⟨g, o, k1, k2, k3⟩ := h5 j x hx
  refine ⟨g, o, k1, k2, ?_⟩
  rw [gb_cell hg (by show g < _; omega) (fun e => by have := hr _ e; simp at this; omega)]
  exact k3
theorem ArgI.new (h : ArgI B0 w v l) (hg : w.grownBy w' none) (hB : B0 ≤ w.heap.size) : ArgI B0 w' v l := h.kept hg hB (fun _ e => by cases e)
theorem ArgI.form (h : ArgI B0 w v l) : ∃ A n c, v = .slice A n c ∧ n ≤ c ∧ n = l.length ∧ n ≤ 9223372036854775807 := by
  obtain ⟨A, n, c, h1, h2, h3, h4, _⟩ := h
  exact ⟨A, n, c, h1, h2, h3, h4⟩
theorem ArgI.at_ {A : Option Addr} {n c k : Nat} (h : ArgI B0 w (.slice A n c) l) (hk : k < n) : ∃ g o x, A = some ⟨g, o, none⟩ ∧ g < B0 ∧ l[k]? = some x ∧ w.cell? ⟨g, o + k, none⟩ = some (.int .i64 x) := by
  obtain ⟨A', n', c', h1, h2, h3, h4, h5⟩ := h
  injection h1 with e1 e2 e3
  subst e1 e2 e3
  have hx : l[k]? = some l[k] := List.getElem?_eq_getElem (by omega)
  obtain ⟨g, o, k1, k2, k3⟩ := h5 k _ hx
  exact ⟨g, o, _, k1, k2, hx, k3⟩
theorem lt_of_cell__ {w : World} {a : Addr} {v : Value} (h : w.cell? a = some v) : a.block < w.heap.size := by
  unfold World.cell? at h
  split at h
  · rename_i hb; exact (Array.getElem?_eq_some_iff.1 hb).1
  · cases h
theorem RI.arg (h : RI w v l) : ArgI w.heap.size w v l := by
  obtain ⟨A, n, c, rfl, h2, h3⟩ := h.form'
  refine ⟨A, n, c, rfl, h2, h3, by have := h.le; omega, fun j x hx => ?_⟩
  obtain ⟨g, o, x', rfl, hx', hc⟩ := h.at_ (k := j) (by have := (List.getElem?_eq_some_iff.1 hx).1; omega)
  rw [hx] at hx'
  cases hx'
  exact ⟨g, o, rfl, lt_of_cell__ hc, hc⟩
end
theorem take_set {α : Type} (z : α) {l : List α} {k : Nat} {x : α} (h : l[k]? = some x) {n : Nat} (hn : n = l.length) : (l.take k ++ List.replicate (n - k) z).set k x = l.take (k + 1) ++ List.replicate (n - (k + 1)) z := by
  obtain ⟨hk, rfl⟩ := List.getElem?_eq_some_iff.1 h
  apply List.ext_getElem?
  intro i
  rw [List.getElem?_set]
  simp only [List.getElem?_append, List.length_append, List.length_take, List.length_replicate, List.getElem?_take, List.getElem?_replicate]
  rw [Nat.min_eq_left (by omega), Nat.min_eq_left (by omega)]
  rcases Nat.lt_trichotomy i k with hi | hi | hi
  · rw [if_neg (by omega), if_pos hi, if_pos hi, if_pos (by omega), if_pos (by omega)]
  · subst hi
    rw [if_pos rfl, if_pos (by omega), if_pos (by omega), if_pos (by omega)]
    exact (List.getElem?_eq_getElem hk).symm
  · rw [if_neg (by omega), if_neg (by omega), if_neg (show ¬ i < k + 1 by omega)]
    by_cases h2 : i < n
    · rw [if_pos (by omega), if_pos (by omega)]
    · rw [if_neg (by omega), if_neg (by omega)]
theorem slice_block {a b : Addr} {n c n' c' : Nat} (h : Value.slice (some a) n c = .slice (some b) n' c') : a.block = b.block := by
  injection h with e
  injection e with e
  rw [e]
/-- What a size law answers: at most what was left; where it is not negative, all fits. -/
def SzPost (left : Int) (fits : Prop) (e : Ending) : Prop := ∃ z : Int, e = .returned (.int .i64 z) ∧ z ≤ left ∧ -1 ≤ z ∧ (0 ≤ z → fits)



end Go.Proofs.YtihobnheficpjaaGreat
namespace Go.Proofs.YtihobnheficpjaaGreat
open Go.RowKit

/-- A slice of nodes that lies below block B0: an argument. -/
def ArgN (B0 : Nat) (w : World) (v : Value) (plan : List Node) : Prop :=
  ∃ A n c, v = .slice A n c ∧ n ≤ c ∧ n = plan.length ∧ n ≤ 9223372036854775807 ∧ ∀ k nd, plan[k]? = some nd → ∃ g o f r, A = some ⟨g, o, none⟩ ∧ g < B0 ∧
    w.cell? ⟨g, o + k * 3, none⟩ = some (.int .i64 nd.kind) ∧ w.cell? ⟨g, o + k * 3 + 1, none⟩ = some f ∧ w.cell? ⟨g, o + k * 3 + 2, none⟩ = some r ∧ ArgI B0 w f nd.frm ∧ ArgI B0 w r nd.row
theorem ArgN.kept {B0 : Nat} {w w' : World} {v : Value} {plan : List Node} {row : Option Nat} (h : ArgN B0 w v plan) (hg : w.grownBy w' row) (hB : B0 ≤ w.heap.size) (hr : ∀ g, row = some g → B0 ≤ g) : ArgN B0 w' v plan := by
  obtain ⟨A, n, c, h1, h2, h3, h4, h5⟩ := h
  refine ⟨A, n, c, h1, h2, h3, h4, fun k nd hx => ?_⟩
  obtain ⟨g, o, f, r, k1, k2, k3, k4, k5, k6, k7⟩ := h5 k nd hx
  have e : ∀ j, w'.cell? ⟨g, j, none⟩ = w.cell? ⟨g, j, none⟩ := fun j => gb_cell hg (by show g < _; omega) (fun e => by have := hr _ e; simp at this; omega)
  exact ⟨g, o, f, r, k1, k2, by rw [e]; exact k3, by rw [e]; exact k4, by rw [e]; exact k5, k6.kept hg hB hr, k7.kept hg hB hr⟩
theorem ArgN.new {B0 : Nat} {w w' : World} {v : Value} {plan : List Node} (h : ArgN B0 w v plan) (hg : w.grownBy w' none) (hB : B0 ≤ w.heap.size) : ArgN B0 w' v plan := h.kept hg hB (fun _ e => by cases e)
theorem ArgN.form {B0 : Nat} {w : World} {v : Value} {plan : List Node} (h : ArgN B0 w v plan) : ∃ A n c, v = .slice A n c ∧ n ≤ c ∧ n = plan.length ∧ n ≤ 9223372036854775807 := by
  obtain ⟨A, n, c, h1, h2, h3, h4, _⟩ := h
  exact ⟨A, n, c, h1, h2, h3, h4⟩
theorem ArgN.at_ {B0 : Nat} {w : World} {plan : List Node} {A : Option Addr} {n c k : Nat} (h : ArgN B0 w (.slice A n c) plan) (hk : k < n) : ∃ g o nd f r, A = some ⟨g, o, none⟩ ∧ g < B0 ∧ plan[k]? = some nd ∧
    w.cell? ⟨g, o + k * 3, none⟩ = some (.int .i64 nd.kind) ∧ w.cell? ⟨g, o + k * 3 + 1, none⟩ = some f ∧ w.cell? ⟨g, o + k * 3 + 2, none⟩ = some r ∧ ArgI B0 w f nd.frm ∧ ArgI B0 w r nd.row := by
  obtain ⟨A', n', c', h1, h2, h3, h4, h5⟩ := h
  injection h1 with e1 e2 e3
  subst e1 e2 e3
  have hx : plan[k]? = some plan[k] := List.getElem?_eq_getElem (by omega)
  obtain ⟨g, o, f, r, k1, k2, k3, k4, k5, k6, k7⟩ := h5 k _ hx
  exact ⟨g, o, _, f, r, k1, k2, hx, k3, k4, k5, k6, k7⟩

/-- A row of nodes of the call's own, with its rows of integers. -/
def DC (w : World) (base : Nat) (xs : List Value) (i : Nat) (nd : Node) : Prop :=
  ∃ f r, xs[i * 3]? = some (.int .i64 nd.kind) ∧ xs[i * 3 + 1]? = some f ∧ xs[i * 3 + 2]? = some r ∧ OwnI w base f nd.frm ∧ OwnI w base r nd.row
def DN (w : World) (base : Nat) (v : Value) (plan : List Node) : Prop := ∃ xs, w.ownsRow base 52 3 v plan.length xs ∧ ∀ i nd, plan[i]? = some nd → DC w base xs i nd
theorem DN.own {w : World} {base : Nat} {v : Value} {plan : List Node} (h : DN w base v plan) : OwnN w base v plan := by
  obtain ⟨xs, h1, h2⟩ := h
  refine ⟨xs, h1, fun i nd hi => ?_⟩
  obtain ⟨f, r, k1, k2, k3, k4, k5⟩ := h2 i nd hi
  exact ⟨f, r, k1, k2, k3, k4.ri, k5.ri⟩
theorem DN.rn {w : World} {base : Nat} {v : Value} {plan : List Node} (h : DN w base v plan) : RN w v plan := h.own.rn
theorem DN.new {w w' : World} {base : Nat} {v : Value} {plan : List Node} (h : DN w base v plan) (hg : w.grownBy w' none) : DN w' base v plan := by
  obtain ⟨xs, h1, h2⟩ := h
  refine ⟨xs, own_grown h1 hg (NotE.none _ _), fun i nd hi => ?_⟩
  obtain ⟨f, r, k1, k2, k3, k4, k5⟩ := h2 i nd hi
  exact ⟨f, r, k1, k2, k3, k4.new hg, k5.new hg⟩
theorem DN.set_ {w : World} {base g n cap k : Nat} {plan : List Node} {nd : Node} {f r : Value} (h : DN w base (.slice (some ⟨g, 0, none⟩) n cap) plan) (hn : plan.length = n) (hk : k < n) (hf : OwnI w base f nd.frm) (hr : OwnI w base r nd.row) :
    DN (((w.setCell ⟨g, k * 3, none⟩ (.int .i64 nd.kind)).setCell ⟨g, k * 3 + 1, none⟩ f).setCell ⟨g, k * 3 + 2, none⟩ r) base (.slice (some ⟨g, 0, none⟩) n cap) (plan.set k nd) := by
  subst hn
  obtain ⟨xs, h1, h2⟩ := h
  have s1 := World.ownsRow.stored h1 (k * 3) (.int .i64 nd.kind)
  have s2 := World.ownsRow.stored s1.1 (k * 3 + 1) f
  have s3 := World.ownsRow.stored s2.1 (k * 3 + 2) r
  have hg : w.grownBy (((w.setCell ⟨g, k * 3, none⟩ (.int .i64 nd.kind)).setCell ⟨g, k * 3 + 1, none⟩ f).setCell ⟨g, k * 3 + 2, none⟩ r) (some g) := gb_trans (gb_trans s1.2 s2.2) s3.2
  have hne : NotE w 3 (some g) := NotE.own (v := .slice (some ⟨g, 0, none⟩) plan.length cap) h1 (by decide)
  have hxl := h1.1
  refine ⟨_, by rw [List.length_set]; exact s3.1, fun i x hi => ?_⟩
  by_cases hik : i = k
  · subst hik
    rw [List.getElem?_set_self hk] at hi
    obtain rfl : nd = x := by simpa using hi
    refine ⟨f, r, ?_, ?_, ?_, hf.grown hg hne, hr.grown hg hne⟩
    · rw [List.getElem?_set_ne (by omega), List.getElem?_set_ne (by omega), List.getElem?_set_self (by omega)]
    · rw [List.getElem?_set_ne (by omega), List.getElem?_set_self (by rw [List.length_set]; omega)]
    · rw [List.getElem?_set_self (by rw [List.length_set, List.length_set]; omega)]
  · rw [List.getElem?_set_ne (fun e => hik e.symm)] at hi
    obtain ⟨f', r', k1, k2, k3, k4, k5⟩ := h2 i x hi
    refine ⟨f', r', ?_, ?_, ?_, k4.grown hg hne, k5.grown hg hne⟩
    all_goals rw [List.getElem?_set_ne (by omega), List.getElem?_set_ne (by omega), List.getElem?_set_ne (by omega)]; assumption
theorem DN.made {w : World} {base n : Nat} {v : Value} (h : w.ownsRow base 52 3 v n (madeCells (Value.agg #[.int .i64 0, .slice none 0 0, .slice none 0 0]).cells (n * 3)).toList) : DN w base v (List.replicate n ⟨0, [], []⟩) := by
  refine ⟨_, by rw [List.length_replicate]; exact h, fun i nd hi => ?_⟩
  obtain ⟨hin, rfl⟩ : i < n ∧ nd = ⟨0, [], []⟩ := by
    rw [List.getElem?_replicate] at hi
    split at hi
    · exact ⟨by assumption, by injection hi with e; exact e.symm⟩
    · cases hi
  have hc : (Value.agg #[.int .i64 0, .slice none 0 0, .slice none 0 0]).cells = #[.int .i64 0, .slice none 0 0, .slice none 0 0] := rfl
  rw [hc]
  refine ⟨.slice none 0 0, .slice none 0 0, ?_, ?_, ?_, OwnI.nil _ _, OwnI.nil _ _⟩
  · simp [madeCells, show i * 3 < n * 3 by omega]
  · simp [madeCells, show i * 3 + 1 < n * 3 by omega, show (i * 3 + 1) % 3 = 1 by omega]
  · simp [madeCells, show i * 3 + 2 < n * 3 by omega, show (i * 3 + 2) % 3 = 2 by omega]


/-- All of a plan is short. -/
def fitsN (plan : List Node) : Prop := plan.length ≤ 1048576 ∧ ∀ nd ∈ plan, nd.frm.length ≤ 1048576 ∧ nd.row.length ≤ 1048576
end Go.Proofs.YtihobnheficpjaaGreat
namespace Go.Proofs.YtihobnheficpjaaGreat
open Go.RowKit

theorem OwnI.lower {w : World} {a b : Nat} {v : Value} {l : List Int} (h : OwnI w a v l) (hab : b ≤ a) : OwnI w b v l := by
  refine ⟨h.1, ?_⟩
  rcases h.2 with h0 | ⟨g, cap, cur, h1, h2, h3⟩
  · exact .inl h0
  · exact .inr ⟨g, cap, cur, h1, Nat.le_trans hab h2, h3⟩
theorem OwnI.keep {w w' : World} {b g : Nat} {E : TypeId} {cs : Array Value} {v : Value} {l : List Int} (h : OwnI w b v l) (hg : w.grownBy w' (some g)) (hb : Blk w g E cs) (hE : 3 ≠ E) : OwnI w' b v l := h.grown hg (NotE.blk hb hE)

end Go.Proofs.YtihobnheficpjaaGreat
