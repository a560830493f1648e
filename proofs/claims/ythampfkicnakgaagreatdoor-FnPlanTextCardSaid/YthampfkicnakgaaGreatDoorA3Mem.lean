/- Words for memory: nodes, slices of nodes. Conditions: none. -/
import Derived.Test.YthampfkicnakgaaGreatDoorA1Base
import Derived.Test.YthampfkicnakgaaGreatDoorA2Pure
namespace Go.Proofs.YthampfkicnakgaaGreatDoor
open Go.RowKit

/-- A node by value. -/
def NV (w : World) (v : Value) (nd : Node) : Prop := ∃ f r, v = .agg #[.int .i64 nd.kind, f, r] ∧ RI w f nd.frm ∧ RI w r nd.row
/-- Three cells at place i of a row are a node's. -/
def NC (w : World) (xs : List Value) (i : Nat) (nd : Node) : Prop :=
  ∃ f r, xs[i * 3]? = some (.int .i64 nd.kind) ∧ xs[i * 3 + 1]? = some f ∧ xs[i * 3 + 2]? = some r ∧ RI w f nd.frm ∧ RI w r nd.row
/-- A slice of nodes. -/
def RN (w : World) (v : Value) (plan : List Node) : Prop := ∃ xs, TS w 66 3 v plan.length xs ∧ ∀ i nd, plan[i]? = some nd → NC w xs i nd
theorem RI.nil (w : World) : RI w (.slice none 0 0) [] := TS.nil _ _ _
/-- A slice literal. -/
theorem RI.lit (w : World) (l : List Int) (hl : l.length ≤ maxLen := by simp [maxLen]) : RI (w.alloc (.cells (l.map (.int .i64)).toArray 3)) (.slice (some ⟨w.heap.size, 0, none⟩) l.length l.length) l :=
  ⟨by simp, _, _, rfl, Nat.le_refl _, hl, by simp, .inr ⟨w.heap.size, 0, _, rfl, Blk.new w _ _, fun j u hu => by simpa using hu⟩⟩
/-- A row of nodes of the call's own. -/
def OwnN (w : World) (base : Nat) (v : Value) (plan : List Node) : Prop := ∃ xs, w.ownsRow base 66 3 v plan.length xs ∧ ∀ i nd, plan[i]? = some nd → NC w xs i nd
section
variable {w w' : World} {v : Value} {nd : Node} {plan : List Node} {base : Nat} {xs : List Value} {row : Option Nat}
theorem RI.grown {l : List Int} (h : RI w v l) (hg : w.grownBy w' row) (hr : NotE w 3 row) : RI w' v l := TS.grown h hg hr
theorem RI.oneCell {l : List Int} (h : RI w v l) : v.oneCell' = true := by
  obtain ⟨A, n, c, rfl, _⟩ := h.form'
  rfl
theorem RI.new {l : List Int} (h : RI w v l) (hg : w.grownBy w' none) : RI w' v l := TS.new h hg
theorem RI.alloc {l : List Int} (h : RI w v l) (o : Obj) : RI (w.alloc o) v l := h.new (World.grownBy_alloc w o none)
theorem NV.grown (h : NV w v nd) (hg : w.grownBy w' row) (hr : NotE w 3 row) : NV w' v nd :=
  let ⟨f, r, h1, h2, h3⟩ := h; ⟨f, r, h1, h2.grown hg hr, h3.grown hg hr⟩
theorem NC.grown {i : Nat} (h : NC w xs i nd) (hg : w.grownBy w' row) (hr : NotE w 3 row) : NC w' xs i nd :=
  let ⟨f, r, h1, h2, h3, h4, h5⟩ := h; ⟨f, r, h1, h2, h3, h4.grown hg hr, h5.grown hg hr⟩
theorem RN.grown (h : RN w v plan) (hg : w.grownBy w' row) (hr : NotE w 3 row) (hr' : NotE w 66 row) : RN w' v plan :=
  let ⟨xs, h1, h2⟩ := h; ⟨xs, h1.grown hg hr', fun i nd hi => (h2 i nd hi).grown hg hr⟩
theorem RN.new (h : RN w v plan) (hg : w.grownBy w' none) : RN w' v plan := h.grown hg (NotE.none _ _) (NotE.none _ _)
theorem RN.alloc (h : RN w v plan) (o : Obj) : RN (w.alloc o) v plan := h.new (World.grownBy_alloc w o none)
theorem OwnN.grown (h : OwnN w base v plan) (hg : w.grownBy w' row) (hr : NotE w 3 row) (hr' : NotE w 66 row) : OwnN w' base v plan :=
  let ⟨xs, h1, h2⟩ := h; ⟨xs, own_grown h1 hg hr', fun i nd hi => (h2 i nd hi).grown hg hr⟩
theorem OwnN.new (h : OwnN w base v plan) (hg : w.grownBy w' none) : OwnN w' base v plan := h.grown hg (NotE.none _ _) (NotE.none _ _)
theorem OwnN.rn (h : OwnN w base v plan) : RN w v plan := let ⟨xs, h1, h2⟩ := h; ⟨xs, TS.of_own h1, h2⟩
theorem OwnN.lt (h : OwnN w base v plan) : ∀ g, v.ownBlock = some g → base ≤ g ∧ g < w.heap.size := let ⟨_, h1, _⟩ := h; World.ownsRow.lt h1
theorem OwnN.notE {E : TypeId} (h : OwnN w base v plan) (hE : E ≠ 66) : NotE w E v.ownBlock := let ⟨_, h1, _⟩ := h; NotE.own h1 hE
theorem OwnN.gb {a : World} (h : OwnN w base v plan) (hg : a.grownBy w row) (k : w.grownBy w' v.ownBlock) (hb : a.heap.size ≤ base) : a.grownBy w' row :=
  gb_new hg k (fun g e => .inl (Nat.le_trans hb (h.lt g e).1))
theorem OwnN.empty (w : World) {base : Nat} (hb : base ≤ w.heap.size) : OwnN (w.alloc (.cells #[] 66)) base (.slice (some ⟨w.heap.size, 0, none⟩) 0 0) [] := ⟨[], own_empty hb, fun i nd h => by simp at h⟩
theorem OwnN.nil (w : World) (base : Nat) : OwnN w base (.slice none 0 0) [] := ⟨[], World.ownsRow_nil _ _ _ _, fun i nd h => by simp at h⟩
theorem RN.len {A : Option Addr} {n c : Nat} (h : RN w (.slice A n c) plan) : n = plan.length := by
  obtain ⟨xs, h, _⟩ := h
  obtain ⟨A', c', h1, _⟩ := h.form
  injection h1
theorem RN.form' (h : RN w v plan) : ∃ A n c, v = .slice A n c ∧ n ≤ c ∧ n = plan.length ∧ n ≤ 9223372036854775807 := by
  obtain ⟨xs, h, _⟩ := h
  have := h.le
  obtain ⟨A, c, h1, h2, _⟩ := h.form
  exact ⟨A, _, c, h1, h2, rfl, this⟩
theorem RN.val (h : RN w v plan) : ∃ A n c, v = .slice A n c := by
  obtain ⟨A, n, c, h1, _⟩ := h.form'
  exact ⟨A, n, c, h1⟩
theorem RN.at_ {A : Option Addr} {n c k : Nat} (h : RN w (.slice A n c) plan) (hk : k < n) :
    ∃ g o nd f r, A = some ⟨g, o, none⟩ ∧ plan[k]? = some nd ∧ w.cell? ⟨g, o + k * 3, none⟩ = some (.int .i64 nd.kind) ∧ w.cell? ⟨g, o + k * 3 + 1, none⟩ = some f ∧ w.cell? ⟨g, o + k * 3 + 2, none⟩ = some r ∧ RI w f nd.frm ∧ RI w r nd.row := by
  have hn := h.len
  subst hn
  obtain ⟨xs, h1, h2⟩ := h
  obtain ⟨g, o, cur, rfl, _, hc⟩ := TS.at_ h1 (by omega)
  obtain ⟨f, r, k1, k2, k3, k4, k5⟩ := h2 k _ (List.getElem?_eq_getElem hk)
  exact ⟨g, o, plan[k], f, r, rfl, List.getElem?_eq_getElem hk, hc _ _ k1, hc _ _ k2, hc _ _ k3, k4, k5⟩
end
theorem info66 : (Tryz.prog.info? 66).map (fun i => (i.zero, i.size, i.bytes)) = some (some (.agg #[.int .i64 0, .slice none 0 0, .slice none 0 0]), 3, 56) := by kernel_rfl
theorem NC.snoc_old {w : World} {xs : List Value} {i : Nat} {nd : Node} {ys : List Value} (h : NC w xs i nd) : NC w (xs ++ ys) i nd := by
  obtain ⟨f, r, h1, h2, h3, h4, h5⟩ := h
  have a := fun {j u} (hj : xs[j]? = some u) => (List.getElem?_append_left (l₂ := ys) (List.getElem?_eq_some_iff.1 hj).1).trans hj
  exact ⟨f, r, a h1, a h2, a h3, h4, h5⟩
theorem NC.snoc_new {w : World} {xs : List Value} {n : Nat} {nd : Node} {f r : Value} (hl : xs.length = n * 3) (h4 : RI w f nd.frm) (h5 : RI w r nd.row) : NC w (xs ++ [.int .i64 nd.kind, f, r]) n nd := by
  refine ⟨f, r, ?_, ?_, ?_, h4, h5⟩
  · rw [List.getElem?_append_right (by omega), show n * 3 - xs.length = 0 by omega]; rfl
  · rw [List.getElem?_append_right (by omega), show n * 3 + 1 - xs.length = 1 by omega]; rfl
  · rw [List.getElem?_append_right (by omega), show n * 3 + 2 - xs.length = 2 by omega]; rfl
/-- 'append(out, x)' of one node. -/
theorem wp_push_node {ops : Array Oper} {rest : List Oper} {o : Oper} {a : Act} {Q : Exit → Act → World → Prop} {w : World} {nd : Node} {f r : Value}
    (s x : Operand) (hgd : o.guard = none) (ho : o.op = .call { callee := .builtin .append, args := #[s, x], argTypes := #[31, 31] })
    {base : Nat} {v : Value} {plan : List Node} (hown : OwnN w base v plan) (hf : RI w f nd.frm) (hr : RI w r nd.row) (hn : plan.length ≤ 1000000000) (hbase : base ≤ w.heap.size)
    (hs : a.eval s = v) (hx : a.eval x = .slice (some ⟨w.heap.size, 0, none⟩) 1 1)
    (h : ∀ v' w', OwnN w' base v' (plan ++ [nd]) → w.grownBy w' v.ownBlock → wpList Tryz.prog ops Q rest (a.put o.dst v') w') :
    wpList Tryz.prog ops Q (o :: rest) a (w.alloc (.cells #[.int .i64 nd.kind, f, r] 66)) := by
  obtain ⟨xs, ho1, ho2⟩ := hown
  refine wp_push s x 31 _ 3 56 Tryz.underlying31 info66 rfl (by decide) (by decide) hgd ho ho1 hn hbase rfl ?_ hs hx ?_
  · intro u hu
    simp only [List.mem_cons, List.not_mem_nil, or_false] at hu
    rcases hu with rfl | rfl | rfl
    · rfl
    · exact hf.oneCell
    · exact hr.oneCell
  intro v' w' h1 h2 _
  refine h v' w' ⟨_, by simpa using h1, ?_⟩ h2
  intro i nd' hi
  have hne : NotE w 3 v.ownBlock := NotE.own ho1 (by decide)
  by_cases hl : i < plan.length
  · rw [List.getElem?_append_left hl] at hi
    exact ((ho2 i nd' hi).snoc_old).grown h2 hne
  · rw [List.getElem?_append_right (by omega)] at hi
    have h0 : i - plan.length = 0 := by
      rcases Nat.eq_zero_or_pos (i - plan.length) with h | h
      · exact h
      · rw [List.getElem?_eq_none (by simp; omega)] at hi
        cases hi
    rw [h0] at hi
    obtain rfl : nd = nd' := by simpa using hi
    obtain rfl : i = plan.length := by omega
    exact NC.snoc_new ho1.1 (hf.grown h2 hne) (hr.grown h2 hne)
theorem OwnN.form {w : World} {base : Nat} {v : Value} {plan : List Node} (h : OwnN w base v plan) {n : Nat} (hn : plan.length = n) (h0 : 0 < n) :
    ∃ g cap cur, v = .slice (some ⟨g, 0, none⟩) n cap ∧ n ≤ cap ∧ base ≤ g ∧ Blk w g 66 cur ∧ ∀ j, j < n * 3 → ∃ u, w.cell? ⟨g, j, none⟩ = some u := by
  subst hn
  obtain ⟨xs, h1, _⟩ := h
  rcases h1.2 with ⟨rfl, hz⟩ | ⟨g, cap, cur, rfl, hb, hh, hn, _, hcs, ht⟩
  · omega
  · refine ⟨g, cap, cur, rfl, hn, hb, hh, fun j hj => ?_⟩
    rw [cell_of_row w g j cur _ _ hh]
    exact ⟨_, Array.getElem?_eq_getElem (by rw [hcs]; omega)⟩
/-- One node of an owned row is written anew. -/
theorem OwnN.set_ {w : World} {base g n cap k : Nat} {plan : List Node} {nd : Node} {f r : Value} (h : OwnN w base (.slice (some ⟨g, 0, none⟩) n cap) plan) (hn : plan.length = n) (hk : k < n) (hf : RI w f nd.frm) (hr : RI w r nd.row) :
    OwnN (((w.setCell ⟨g, k * 3, none⟩ (.int .i64 nd.kind)).setCell ⟨g, k * 3 + 1, none⟩ f).setCell ⟨g, k * 3 + 2, none⟩ r) base (.slice (some ⟨g, 0, none⟩) n cap) (plan.set k nd) := by
  subst hn
  obtain ⟨xs, h1, h2⟩ := h
  have s1 := World.ownsRow.stored h1 (k * 3) (.int .i64 nd.kind)
  have s2 := World.ownsRow.stored s1.1 (k * 3 + 1) f
  have s3 := World.ownsRow.stored s2.1 (k * 3 + 2) r
  have hg : w.grownBy (((w.setCell ⟨g, k * 3, none⟩ (.int .i64 nd.kind)).setCell ⟨g, k * 3 + 1, none⟩ f).setCell ⟨g, k * 3 + 2, none⟩ r) (some g) := gb_trans (gb_trans s1.2 s2.2) s3.2
  have hne : NotE w 3 (some g) := NotE.own (v := .slice (some ⟨g, 0, none⟩) plan.length cap) h1 (by decide)
  have hxl := h1.1
  refine ⟨_, by rw [List.length_set]; exact s3.1, fun i x hi => ?_⟩
  by_cases hik : i = k
  · subst hik
    rw [List.getElem?_set_self hk] at hi
    obtain rfl : nd = x := by simpa using hi
    refine ⟨f, r, ?_, ?_, ?_, hf.grown hg hne, hr.grown hg hne⟩
    · rw [List.getElem?_set_ne (by omega), List.getElem?_set_ne (by omega), List.getElem?_set_self (by omega)]
    · rw [List.getElem?_set_ne (by omega), List.getElem?_set_self (by rw [List.length_set]; omega)]
    · rw [List.getElem?_set_self (by rw [List.length_set, List.length_set]; omega)]
  · rw [List.getElem?_set_ne (fun e => hik e.symm)] at hi
    obtain ⟨f', r', k1, k2, k3, k4, k5⟩ := h2 i x hi
    refine ⟨f', r', ?_, ?_, ?_, k4.grown hg hne, k5.grown hg hne⟩
    all_goals rw [List.getElem?_set_ne (by omega), List.getElem?_set_ne (by omega), List.getElem?_set_ne (by omega)]; assumption
end Go.Proofs.YthampfkicnakgaaGreatDoor
