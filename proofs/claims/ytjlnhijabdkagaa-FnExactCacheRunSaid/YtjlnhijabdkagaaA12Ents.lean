/- Words for memory: entries, slices of entries. -/
import Derived.Test.YtjlnhijabdkagaaA6Lists
namespace Go.Proofs.Ytjlnhijabdkagaa
open Go.RowKit

structure Ent where
  kind : Int
  rows : List (List Int)
  out : List Int
deriving DecidableEq, Inhabited
/-- An entry by value. -/
def EV (w : World) (v : Value) (e : Ent) : Prop := ∃ r o, v = .agg #[.int .i64 e.kind, r, o] ∧ RL w r e.rows ∧ RI w o e.out
/-- Three cells at place i of a row are an entry's. -/
def EC (w : World) (xs : List Value) (i : Nat) (e : Ent) : Prop :=
  ∃ r o, xs[i * 3]? = some (.int .i64 e.kind) ∧ xs[i * 3 + 1]? = some r ∧ xs[i * 3 + 2]? = some o ∧ RL w r e.rows ∧ RI w o e.out
/-- A slice of entries. -/
def RE (w : World) (v : Value) (es : List Ent) : Prop := ∃ xs, TS w 62 3 v es.length xs ∧ ∀ (i : Nat) (e : Ent), es[i]? = some e → EC w xs i e
/-- A row of entries of the call's own; what they hold is readable. -/
def OwnE (w : World) (base : Nat) (v : Value) (es : List Ent) : Prop := ∃ xs, w.ownsRow base 62 3 v es.length xs ∧ ∀ (i : Nat) (e : Ent), es[i]? = some e → EC w xs i e
theorem RL.oneCell {w : World} {v : Value} {ll : List (List Int)} (h : RL w v ll) : v.oneCell' = true := by
  obtain ⟨A, n, c, rfl⟩ := h.val
  rfl
section
variable {w w' : World} {v : Value} {e : Ent} {es : List Ent} {base : Nat} {xs : List Value} {row : Option Nat}
theorem EV.grown (h : EV w v e) (hg : w.grownBy w' row) (hr : NotE w 3 row) (hr' : NotE w 27 row) : EV w' v e :=
  let ⟨r, o, h1, h2, h3⟩ := h; ⟨r, o, h1, h2.grown hg hr hr', h3.grown hg hr⟩
theorem EV.new (h : EV w v e) (hg : w.grownBy w' none) : EV w' v e := h.grown hg (NotE.none _ _) (NotE.none _ _)
theorem EC.grown {i : Nat} (h : EC w xs i e) (hg : w.grownBy w' row) (hr : NotE w 3 row) (hr' : NotE w 27 row) : EC w' xs i e :=
  let ⟨r, o, h1, h2, h3, h4, h5⟩ := h; ⟨r, o, h1, h2, h3, h4.grown hg hr hr', h5.grown hg hr⟩
theorem RE.grown (h : RE w v es) (hg : w.grownBy w' row) (hr : NotE w 3 row) (hr' : NotE w 27 row) (hr2 : NotE w 62 row) : RE w' v es :=
  let ⟨xs, h1, h2⟩ := h; ⟨xs, h1.grown hg hr2, fun i nd hi => (h2 i nd hi).grown hg hr hr'⟩
theorem RE.new (h : RE w v es) (hg : w.grownBy w' none) : RE w' v es := h.grown hg (NotE.none _ _) (NotE.none _ _) (NotE.none _ _)
theorem RE.alloc (h : RE w v es) (o : Obj) : RE (w.alloc o) v es := h.new (World.grownBy_alloc w o none)
theorem OwnE.grown (h : OwnE w base v es) (hg : w.grownBy w' row) (hr : NotE w 3 row) (hr' : NotE w 27 row) (hr2 : NotE w 62 row) : OwnE w' base v es :=
  let ⟨xs, h1, h2⟩ := h; ⟨xs, own_grown h1 hg hr2, fun i nd hi => (h2 i nd hi).grown hg hr hr'⟩
theorem OwnE.new (h : OwnE w base v es) (hg : w.grownBy w' none) : OwnE w' base v es := h.grown hg (NotE.none _ _) (NotE.none _ _) (NotE.none _ _)
theorem OwnE.re (h : OwnE w base v es) : RE w v es := let ⟨xs, h1, h2⟩ := h; ⟨xs, TS.of_own h1, h2⟩
theorem OwnE.lt (h : OwnE w base v es) : ∀ g, v.ownBlock = some g → base ≤ g ∧ g < w.heap.size := let ⟨_, h1, _⟩ := h; World.ownsRow.lt h1
theorem OwnE.notE {E : TypeId} (h : OwnE w base v es) (hE : E ≠ 62) : NotE w E v.ownBlock := let ⟨_, h1, _⟩ := h; NotE.own h1 hE
theorem OwnE.gb {a : World} (h : OwnE w base v es) (hg : a.grownBy w row) (k : w.grownBy w' v.ownBlock) (hb : a.heap.size ≤ base) : a.grownBy w' row :=
  gb_new hg k (fun g e => .inl (Nat.le_trans hb (h.lt g e).1))
theorem OwnE.low {a b : Nat} (h : OwnE w a v es) (hab : b ≤ a) : OwnE w b v es := by
  obtain ⟨xs, h1, h2⟩ := h
  refine ⟨xs, ⟨h1.1, ?_⟩, h2⟩
  rcases h1.2 with h0 | ⟨g, cap, cur, h1, h2, h3⟩
  · exact .inl h0
  · exact .inr ⟨g, cap, cur, h1, Nat.le_trans hab h2, h3⟩
theorem OwnE.empty (w : World) {base : Nat} (hb : base ≤ w.heap.size) : OwnE (w.alloc (.cells #[] 62)) base (.slice (some ⟨w.heap.size, 0, none⟩) 0 0) [] := ⟨[], own_empty hb, fun i nd h => by simp at h⟩
theorem OwnE.nil (w : World) (base : Nat) : OwnE w base (.slice none 0 0) [] := ⟨[], World.ownsRow_nil _ _ _ _, fun i nd h => by simp at h⟩
theorem RE.nil (w : World) : RE w (.slice none 0 0) [] := ⟨[], TS.nil _ _ _, fun i nd h => by simp at h⟩
theorem RE.len {A : Option Addr} {n c : Nat} (h : RE w (.slice A n c) es) : n = es.length := by
  obtain ⟨xs, h, _⟩ := h
  obtain ⟨A', c', h1, _⟩ := h.form
  injection h1
theorem RE.form' (h : RE w v es) : ∃ A n c, v = .slice A n c ∧ n ≤ c ∧ n = es.length ∧ n ≤ 9223372036854775807 := by
  obtain ⟨xs, h, _⟩ := h
  have := h.le
  obtain ⟨A, c, h1, h2, _⟩ := h.form
  exact ⟨A, _, c, h1, h2, rfl, this⟩
theorem RE.val (h : RE w v es) : ∃ A n c, v = .slice A n c := by
  obtain ⟨A, n, c, h1, _⟩ := h.form'
  exact ⟨A, n, c, h1⟩
theorem RE.at_ {A : Option Addr} {n c k : Nat} (h : RE w (.slice A n c) es) (hk : k < n) :
    ∃ g o e B1 n1 c1 B2 n2 c2, A = some ⟨g, o, none⟩ ∧ es[k]? = some e ∧ w.cell? ⟨g, o + k * 3, none⟩ = some (.int .i64 e.kind) ∧ w.cell? ⟨g, o + k * 3 + 1, none⟩ = some (.slice B1 n1 c1) ∧ w.cell? ⟨g, o + k * 3 + 2, none⟩ = some (.slice B2 n2 c2) ∧ RL w (.slice B1 n1 c1) e.rows ∧ RI w (.slice B2 n2 c2) e.out := by
  have hn := h.len
  subst hn
  obtain ⟨xs, h1, h2⟩ := h
  obtain ⟨g, o, cur, rfl, _, hc⟩ := TS.at_ h1 (by omega)
  obtain ⟨r, u, k1, k2, k3, k4, k5⟩ := h2 k _ (List.getElem?_eq_getElem hk)
  obtain ⟨B1, n1, c1, rfl⟩ := k4.val
  obtain ⟨B2, n2, c2, rfl⟩ := k5.val
  exact ⟨g, o, es[k], B1, n1, c1, B2, n2, c2, rfl, List.getElem?_eq_getElem hk, hc _ _ k1, hc _ _ k2, hc _ _ k3, k4, k5⟩
theorem EC.snoc_old {i : Nat} {ys : List Value} (h : EC w xs i e) : EC w (xs ++ ys) i e := by
  obtain ⟨f, r, h1, h2, h3, h4, h5⟩ := h
  have a := fun {j u} (hj : xs[j]? = some u) => (List.getElem?_append_left (l₂ := ys) (List.getElem?_eq_some_iff.1 hj).1).trans hj
  exact ⟨f, r, a h1, a h2, a h3, h4, h5⟩
theorem EC.snoc_new {n : Nat} {f r : Value} (hl : xs.length = n * 3) (h4 : RL w f e.rows) (h5 : RI w r e.out) : EC w (xs ++ [.int .i64 e.kind, f, r]) n e := by
  refine ⟨f, r, ?_, ?_, ?_, h4, h5⟩
  · rw [List.getElem?_append_right (by omega), show n * 3 - xs.length = 0 by omega]; rfl
  · rw [List.getElem?_append_right (by omega), show n * 3 + 1 - xs.length = 1 by omega]; rfl
  · rw [List.getElem?_append_right (by omega), show n * 3 + 2 - xs.length = 2 by omega]; rfl
end
theorem info62 : (Try.prog.info? 62).map (fun i => (i.zero, i.size, i.bytes)) = some (some (.agg #[.int .i64 0, .slice none 0 0, .slice none 0 0]), 3, 56) := by kernel_rfl
/-- 'append(out, x)' of one entry. -/
theorem wp_push_ent {ops : Array Oper} {rest : List Oper} {o : Oper} {a : Act} {Q : Exit → Act → World → Prop} {w : World} {e : Ent} {f r : Value}
    (s x : Operand) (hgd : o.guard = none) (ho : o.op = .call { callee := .builtin .append, args := #[s, x], argTypes := #[41, 41] })
    {base : Nat} {v : Value} {es : List Ent} (hown : OwnE w base v es) (hf : RL w f e.rows) (hr : RI w r e.out) (hn : es.length ≤ 1000000000) (hbase : base ≤ w.heap.size)
    (hs : a.eval s = v) (hx : a.eval x = .slice (some ⟨w.heap.size, 0, none⟩) 1 1)
    (h : ∀ v' w', OwnE w' base v' (es ++ [e]) → w.grownBy w' v.ownBlock → wpList Try.prog ops Q rest (a.put o.dst v') w') :
    wpList Try.prog ops Q (o :: rest) a (w.alloc (.cells #[.int .i64 e.kind, f, r] 62)) := by
  obtain ⟨xs, ho1, ho2⟩ := hown
  refine wp_push s x 41 _ 3 56 Try.underlying41 info62 rfl (by decide) (by decide) hgd ho ho1 hn hbase rfl ?_ hs hx ?_
  · intro u hu
    simp only [List.mem_cons, List.not_mem_nil, or_false] at hu
    rcases hu with rfl | rfl | rfl
    · rfl
    · exact hf.oneCell
    · exact hr.oneCell
  intro v' w' h1 h2 _
  refine h v' w' ⟨_, by simpa using h1, ?_⟩ h2
  intro i nd' hi
  have hne : NotE w 3 v.ownBlock := NotE.own ho1 (by decide)
  have hne2 : NotE w 27 v.ownBlock := NotE.own ho1 (by decide)
  by_cases hl : i < es.length
  · rw [List.getElem?_append_left hl] at hi
    exact ((ho2 i nd' hi).snoc_old).grown h2 hne hne2
  · rw [List.getElem?_append_right (by omega)] at hi
    have h0 : i - es.length = 0 := by
      rcases Nat.eq_zero_or_pos (i - es.length) with h | h
      · exact h
      · rw [List.getElem?_eq_none (by simp; omega)] at hi
        cases hi
    rw [h0] at hi
    obtain rfl : e = nd' := by simpa using hi
    obtain rfl : i = es.length := by omega
    exact EC.snoc_new ho1.1 (hf.grown h2 hne hne2) (hr.grown h2 hne)
/-- A literal of one entry is a row of the call's own. -/
theorem OwnE.one {w : World} {base : Nat} {e : Ent} {f r : Value} (hb : base ≤ w.heap.size) (hf : RL w f e.rows) (hr : RI w r e.out) :
    OwnE (w.alloc (.cells #[.int .i64 e.kind, f, r] 62)) base (.slice (some ⟨w.heap.size, 0, none⟩) 1 1) [e] := by
  refine ⟨[.int .i64 e.kind, f, r], ⟨rfl, .inr ⟨w.heap.size, 1, #[.int .i64 e.kind, f, r], rfl, hb, Blk.new w _ _, Nat.le_refl _, by decide, rfl, rfl⟩⟩, ?_⟩
  intro i x hi
  match i, hi with
  | 0, hi =>
    obtain rfl : e = x := by simpa using hi
    exact ⟨f, r, rfl, rfl, rfl, hf.alloc _, hr.alloc _⟩
/-- The third field of an own entry is written anew. -/
theorem OwnE.set_out {w : World} {base g n cap k : Nat} {es : List Ent} {e : Ent} {l : List Int} {r : Value} (h : OwnE w base (.slice (some ⟨g, 0, none⟩) n cap) es) (hn : es.length = n) (he : es[k]? = some e) (hr : RI w r l) :
    OwnE (w.setCell ⟨g, k * 3 + 2, none⟩ r) base (.slice (some ⟨g, 0, none⟩) n cap) (es.set k { e with out := l }) := by
  subst hn
  obtain ⟨hk, he'⟩ := List.getElem?_eq_some_iff.1 he
  obtain ⟨xs, h1, h2⟩ := h
  have s1 := World.ownsRow.stored h1 (k * 3 + 2) r
  have hg := s1.2
  have hne : NotE w 3 (some g) := NotE.own (v := .slice (some ⟨g, 0, none⟩) es.length cap) h1 (by decide)
  have hne2 : NotE w 27 (some g) := NotE.own (v := .slice (some ⟨g, 0, none⟩) es.length cap) h1 (by decide)
  have hxl := h1.1
  refine ⟨_, by rw [List.length_set]; exact s1.1, fun i x hi => ?_⟩
  by_cases hik : i = k
  · subst hik
    rw [List.getElem?_set_self hk] at hi
    obtain rfl : { e with out := l } = x := by simpa using hi
    obtain ⟨f', r', k1, k2, k3, k4, k5⟩ := h2 i e he
    refine ⟨f', r, ?_, ?_, ?_, k4.grown hg hne hne2, hr.grown hg hne⟩
    · rw [List.getElem?_set_ne (by omega)]; exact k1
    · rw [List.getElem?_set_ne (by omega)]; exact k2
    · rw [List.getElem?_set_self (by omega)]
  · rw [List.getElem?_set_ne (fun e => hik e.symm)] at hi
    obtain ⟨f', r', k1, k2, k3, k4, k5⟩ := h2 i x hi
    refine ⟨f', r', ?_, ?_, ?_, k4.grown hg hne hne2, k5.grown hg hne⟩
    · rw [List.getElem?_set_ne (by omega)]; exact k1
    · rw [List.getElem?_set_ne (by omega)]; exact k2
    · rw [List.getElem?_set_ne (by omega)]; exact k3
end Go.Proofs.Ytjlnhijabdkagaa
