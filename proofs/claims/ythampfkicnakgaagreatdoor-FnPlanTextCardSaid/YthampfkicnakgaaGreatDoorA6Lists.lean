/- Words for memory: slices of rows of integers. Conditions: none. -/
import Derived.Test.YthampfkicnakgaaGreatDoorA3Mem
import Derived.Test.YthampfkicnakgaaGreatDoorA4Vals
namespace Go.Proofs.YthampfkicnakgaaGreatDoor
open Go.RowKit

/-- A slice of rows. -/
def RL (w : World) (v : Value) (ll : List (List Int)) : Prop := ∃ xs, TS w 24 1 v ll.length xs ∧ ∀ (i : Nat) (l : List Int), ll[i]? = some l → ∃ u, xs[i]? = some u ∧ RI w u l
/-- .. of the call's own; the rows are readable. -/
def OwnL (w : World) (base : Nat) (v : Value) (ll : List (List Int)) : Prop := ∃ xs, w.ownsRow base 24 1 v ll.length xs ∧ ∀ (i : Nat) (l : List Int), ll[i]? = some l → ∃ u, xs[i]? = some u ∧ RI w u l
section
variable {w w' : World} {v : Value} {ll : List (List Int)} {base : Nat} {row : Option Nat}
theorem RL.grown (h : RL w v ll) (hg : w.grownBy w' row) (hr : NotE w 3 row) (hr' : NotE w 24 row) : RL w' v ll := by
  obtain ⟨xs, h1, h2⟩ := h
  refine ⟨xs, h1.grown hg hr', fun i l hi => ?_⟩
  obtain ⟨u, k1, k2⟩ := h2 i l hi
  exact ⟨u, k1, k2.grown hg hr⟩
theorem RL.new (h : RL w v ll) (hg : w.grownBy w' none) : RL w' v ll := h.grown hg (NotE.none _ _) (NotE.none _ _)
theorem RL.alloc (h : RL w v ll) (o : Obj) : RL (w.alloc o) v ll := h.new (World.grownBy_alloc w o none)
theorem OwnL.grown (h : OwnL w base v ll) (hg : w.grownBy w' row) (hr : NotE w 3 row) (hr' : NotE w 24 row) : OwnL w' base v ll := by
  obtain ⟨xs, h1, h2⟩ := h
  refine ⟨xs, own_grown h1 hg hr', fun i l hi => ?_⟩
  obtain ⟨u, k1, k2⟩ := h2 i l hi
  exact ⟨u, k1, k2.grown hg hr⟩
theorem OwnL.new (h : OwnL w base v ll) (hg : w.grownBy w' none) : OwnL w' base v ll := h.grown hg (NotE.none _ _) (NotE.none _ _)
theorem OwnL.rl (h : OwnL w base v ll) : RL w v ll := let ⟨xs, h1, h2⟩ := h; ⟨xs, TS.of_own h1, h2⟩
theorem OwnL.lt (h : OwnL w base v ll) : ∀ g, v.ownBlock = some g → base ≤ g ∧ g < w.heap.size := let ⟨_, h1, _⟩ := h; World.ownsRow.lt h1
theorem OwnL.notE {E : TypeId} (h : OwnL w base v ll) (hE : E ≠ 24) : NotE w E v.ownBlock := let ⟨_, h1, _⟩ := h; NotE.own h1 hE
theorem OwnL.gb {a : World} (h : OwnL w base v ll) (hg : a.grownBy w row) (k : w.grownBy w' v.ownBlock) (hb : a.heap.size ≤ base) : a.grownBy w' row :=
  gb_new hg k (fun g e => .inl (Nat.le_trans hb (h.lt g e).1))
theorem OwnL.empty (w : World) {base : Nat} (hb : base ≤ w.heap.size) : OwnL (w.alloc (.cells #[] 24)) base (.slice (some ⟨w.heap.size, 0, none⟩) 0 0) [] := ⟨[], own_empty hb, fun i nd h => by simp at h⟩
theorem OwnL.nil (w : World) (base : Nat) : OwnL w base (.slice none 0 0) [] := ⟨[], World.ownsRow_nil _ _ _ _, fun i nd h => by simp at h⟩
theorem RL.nil (w : World) : RL w (.slice none 0 0) [] := ⟨[], TS.nil _ _ _, fun i nd h => by simp at h⟩
theorem RL.len {A : Option Addr} {n c : Nat} (h : RL w (.slice A n c) ll) : n = ll.length := by
  obtain ⟨xs, h, _⟩ := h
  obtain ⟨A', c', h1, _⟩ := h.form
  injection h1
theorem RL.form' (h : RL w v ll) : ∃ A n c, v = .slice A n c ∧ n ≤ c ∧ n = ll.length ∧ n ≤ 9223372036854775807 := by
  obtain ⟨xs, h, _⟩ := h
  have := h.le
  obtain ⟨A, c, h1, h2, _⟩ := h.form
  exact ⟨A, _, c, h1, h2, rfl, this⟩
theorem RL.val (h : RL w v ll) : ∃ A n c, v = .slice A n c := by
  obtain ⟨A, n, c, h1, _⟩ := h.form'
  exact ⟨A, n, c, h1⟩
theorem RL.at_ {A : Option Addr} {n c k : Nat} (h : RL w (.slice A n c) ll) (hk : k < n) :
    ∃ g o l B m e, A = some ⟨g, o, none⟩ ∧ ll[k]? = some l ∧ w.cell? ⟨g, o + k, none⟩ = some (.slice B m e) ∧ RI w (.slice B m e) l ∧ m = l.length ∧ m ≤ e ∧ m ≤ 9223372036854775807 := by
  have hn := h.len
  subst hn
  obtain ⟨xs, h1, h2⟩ := h
  obtain ⟨g, o, cur, rfl, _, hc⟩ := TS.at_ h1 (by omega)
  obtain ⟨u, k1, k2⟩ := h2 k _ (List.getElem?_eq_getElem hk)
  have hle := k2.le
  obtain ⟨B, m, e, rfl, h3, h4⟩ := k2.form'
  exact ⟨g, o, ll[k], B, m, e, rfl, List.getElem?_eq_getElem hk, hc _ _ k1, k2, h4, h3, by omega⟩
end
theorem info24 : (Tryz.prog.info? 24).map (fun i => (i.zero, i.size, i.bytes)) = some (some (.slice none 0 0), 1, 24) := by kernel_rfl
/-- 'append(out, row)' of one row. -/
theorem wp_push_list {ops : Array Oper} {rest : List Oper} {o : Oper} {a : Act} {Q : Exit → Act → World → Prop} {w : World} {l : List Int} {f : Value}
    (s x : Operand) (hgd : o.guard = none) (ho : o.op = .call { callee := .builtin .append, args := #[s, x], argTypes := #[59, 59] })
    {base : Nat} {v : Value} {ll : List (List Int)} (hown : OwnL w base v ll) (hf : RI w f l) (hn : ll.length ≤ 1000000000) (hbase : base ≤ w.heap.size)
    (hs : a.eval s = v) (hx : a.eval x = .slice (some ⟨w.heap.size, 0, none⟩) 1 1)
    (h : ∀ v' w', OwnL w' base v' (ll ++ [l]) → w.grownBy w' v.ownBlock → wpList Tryz.prog ops Q rest (a.put o.dst v') w') :
    wpList Tryz.prog ops Q (o :: rest) a (w.alloc (.cells #[f] 24)) := by
  obtain ⟨xs, ho1, ho2⟩ := hown
  refine wp_push s x 59 _ 1 24 Tryz.underlying59 info24 rfl (by decide) (by decide) hgd ho ho1 hn hbase rfl ?_ hs hx ?_
  · intro u hu
    simp only [List.mem_cons, List.not_mem_nil, or_false] at hu
    subst hu
    exact hf.oneCell
  intro v' w' h1 h2 _
  refine h v' w' ⟨_, by simpa using h1, ?_⟩ h2
  intro i l' hi
  have hne : NotE w 3 v.ownBlock := NotE.own ho1 (by decide)
  have hxl : xs.length = ll.length := by have := ho1.1; omega
  by_cases hl : i < ll.length
  · rw [List.getElem?_append_left hl] at hi
    obtain ⟨u, k1, k2⟩ := ho2 i l' hi
    exact ⟨u, by rw [List.getElem?_append_left (by omega)]; exact k1, k2.grown h2 hne⟩
  · rw [List.getElem?_append_right (by omega)] at hi
    have h0 : i - ll.length = 0 := by
      rcases Nat.eq_zero_or_pos (i - ll.length) with h | h
      · exact h
      · rw [List.getElem?_eq_none (by simp; omega)] at hi
        cases hi
    rw [h0] at hi
    obtain rfl : l = l' := by simpa using hi
    exact ⟨f, by rw [List.getElem?_append_right (by omega), show i - xs.length = 0 by omega]; rfl, hf.grown h2 hne⟩
theorem OwnL.form {n : Nat} {w : World} {base : Nat} {v : Value} {ll : List (List Int)} (h : OwnL w base v ll) (hn : ll.length = n) (h0 : 0 < n) :
    ∃ g cap cur, v = .slice (some ⟨g, 0, none⟩) n cap ∧ n ≤ cap ∧ base ≤ g ∧ Blk w g 24 cur ∧ ∀ j, j < n → ∃ u, w.cell? ⟨g, j, none⟩ = some u := by
  subst hn
  obtain ⟨xs, h1, _⟩ := h
  rcases h1.2 with ⟨rfl, hz⟩ | ⟨g, cap, cur, rfl, hb, hh, hn, _, hcs, ht⟩
  · omega
  · refine ⟨g, cap, cur, rfl, hn, hb, hh, fun j hj => ?_⟩
    rw [cell_of_row w g j cur _ _ hh]
    exact ⟨_, Array.getElem?_eq_getElem (by rw [hcs]; omega)⟩
/-- One row of an owned list is put in anew. -/
theorem OwnL.set_ {w : World} {base g n cap k : Nat} {ll : List (List Int)} {l : List Int} {f : Value} (h : OwnL w base (.slice (some ⟨g, 0, none⟩) n cap) ll) (hn : ll.length = n) (hk : k < n) (hf : RI w f l) :
    OwnL (w.setCell ⟨g, k, none⟩ f) base (.slice (some ⟨g, 0, none⟩) n cap) (ll.set k l) := by
  subst hn
  obtain ⟨xs, h1, h2⟩ := h
  have s1 := World.ownsRow.stored h1 k f
  have hne : NotE w 3 (some g) := NotE.own (v := .slice (some ⟨g, 0, none⟩) ll.length cap) h1 (by decide)
  have hxl : xs.length = ll.length := by have := h1.1; omega
  refine ⟨_, by rw [List.length_set]; exact s1.1, fun i x hi => ?_⟩
  by_cases hik : i = k
  · subst hik
    rw [List.getElem?_set_self hk] at hi
    obtain rfl : l = x := by simpa using hi
    exact ⟨f, by rw [List.getElem?_set_self (by omega)], hf.grown s1.2 hne⟩
  · rw [List.getElem?_set_ne (fun e => hik e.symm)] at hi
    obtain ⟨u, k1, k2⟩ := h2 i x hi
    exact ⟨u, by rw [List.getElem?_set_ne (fun e => hik e.symm)]; exact k1, k2.grown s1.2 hne⟩
/-- 'make([][]int, n)'. -/
theorem OwnL.made {w : World} {base n : Nat} {v : Value} (h : w.ownsRow base 24 1 v n (madeCells (Value.slice none 0 0).cells n).toList) : OwnL w base v (List.replicate n []) := by
  refine ⟨_, by rw [List.length_replicate]; exact h, fun i l hi => ?_⟩
  obtain ⟨hin, rfl⟩ : i < n ∧ l = [] := by
    rw [List.getElem?_replicate] at hi
    split at hi
    · exact ⟨by assumption, by injection hi with e; exact e.symm⟩
    · cases hi
  have hc : (Value.slice none 0 0).cells = #[.slice none 0 0] := rfl
  rw [hc]
  exact ⟨.slice none 0 0, by simp [madeCells, hin, Nat.mod_one], RI.nil _⟩
end Go.Proofs.YthampfkicnakgaaGreatDoor
