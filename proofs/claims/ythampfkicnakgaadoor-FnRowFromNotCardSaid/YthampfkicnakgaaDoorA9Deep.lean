/- Words for memory: an append of a whole slice; slices of rows of the call's own, no two in one block. Conditions: none. -/
import Derived.Test.YthampfkicnakgaaDoorA8Queue
import Derived.Test.YthampfkicnakgaaDoorA6Lists
import Derived.Test.YthampfkicnakgaaDoorE2Args
import Derived.Deep.Upon
namespace Go.Proofs.YthampfkicnakgaaDoor
open Go.RowKit

/-- 'append(s, x...)' of a whole slice with elements of one cell. -/
theorem append_qts {P : Program} {w : World} {base : Nat} {t ty E : TypeId} {z : Value} {bytes : Nat} (ht : P.underlying t = some (.slice E)) (hinf : (P.info? E).map (fun i => (i.zero, i.size, i.bytes)) = some (some z, 1, bytes))
    (hzs : z.cells.size = 1) (hby : bytes ≤ 128) {v x : Value} {xs news : List Value} (h : QS w base E v xs) {m : Nat} (hx : TS w E 1 x m news) (h1 : ∀ u ∈ news, u.oneCell' = true) (hn : xs.length + m ≤ 1000000000) (hbase : base ≤ w.heap.size) :
    ∃ v' w', (Builtin.append_ #[t, t] ty #[v, x]).run P w = .ok v' w' ∧ QS w' base E v' (xs ++ news) ∧ w.grownBy w' v.ownBlock ∧ (v'.ownBlock = v.ownBlock ∨ v'.ownBlock = some w.heap.size) := by
  obtain ⟨i, hi, hz0, hz1, hz2⟩ := info_parts hinf
  obtain ⟨hm, Ax, cx, rfl, hmc, hcx, hcn, hxc⟩ := hx
  rw [Nat.mul_one] at hm
  subst hm
  have hbb : (xs.length + news.length) * bytes ≤ 140737488355328 := by
    calc (xs.length + news.length) * bytes ≤ (xs.length + news.length) * 128 := Nat.mul_le_mul_left _ hby
      _ ≤ 140737488355328 := by omega
  have h63 : xs.length + news.length ≤ maxLen := by unfold maxLen; omega
  by_cases hm0 : news.length = 0
  · obtain rfl : news = [] := List.eq_nil_of_length_eq_zero hm0
    obtain ⟨A, cc, e, h2, h3, h6, h5⟩ := id h
    subst e
    have hs : Src P i.size t (.slice Ax 0 cx) 0 [] w := by
      match Ax with
      | none => exact Src.ofNil w ht cx
      | some ad => exact Src.ofSlice w ht ad 0 cx [] (by simp) (fun j u hj => by simp at hj) (fun u hu => by simp at hu)
    exact ⟨_, w, run_append_nothing (P := P) w t t ty E i ht hi A xs.length cc h2 _ hs, by rw [List.append_nil]; exact h, gb_refl _ _, .inl rfl⟩
  · obtain ⟨gx, ox, curx, rfl, hbx, hcx'⟩ : ∃ g o cur, Ax = some ⟨g, o, none⟩ ∧ Blk w g E cur ∧ ∀ (j : Nat) (u : Value), news[j]? = some u → cur[o + j]? = some u := by
      rcases hxc with h0 | h0
      · exact absurd h0 hm0
      · exact h0
    have hnews : ∀ (j : Nat) (u : Value), news[j]? = some u → w.cell? ((⟨gx, ox, none⟩ : Addr).add j) = some u := by
      intro j u hj
      rw [Addr.add_lit, hbx.cell]
      exact hcx' j u hj
    obtain ⟨A, cc, rfl, h2, h3, h6, h5⟩ := h
    have h1s : ∀ y ∈ xs ++ news, y.oneCell' = true := fun y hy => by
      rcases List.mem_append.1 hy with hy | hy
      · exact h6 y hy
      · exact h1 y hy
    rcases h5 with ⟨rfl, rfl⟩ | ⟨g, o, cur, rfl, k2, k3, k4, k5⟩
    · have hx0 : xs = [] := List.eq_nil_of_length_eq_zero (by omega)
      subst hx0
      have hr := run_append_nil (P := P) w t ty E i z ht hi hz0 ⟨gx, ox, none⟩ news.length cx news (by rw [hz1, Nat.mul_one]) hnews (by omega) (by omega) (by
        rw [hz2]
        simp at hbb
        omega)
      have hge := grownCap_ge w news.length 0 E
      have hcm := grownCap_le_maxLen w news.length 0 E (by simpa using h63)
      refine ⟨_, _, hr, ⟨_, _, by rw [List.nil_append], by rw [List.nil_append]; exact hge, hcm, h1s, .inr ⟨w.heap.size, 0, _, rfl, hbase, heap_alloc_new w.drew _, ?_, fun j y hj => ?_⟩⟩,
        ⟨rfl, rfl, rfl, by simp, fun k hk _ => Below.heap_alloc w.drew _ k hk⟩, .inr rfl⟩
      · rw [Array.size_append, List.size_toArray, size_zeroCells, hzs]
        omega
      · rw [List.nil_append] at hj
        rw [Nat.zero_add, Array.getElem?_append_left (by
          have := (List.getElem?_eq_some_iff.1 hj).1
          simpa using this), List.getElem?_toArray]
        exact hj
    · by_cases hroom : xs.length + news.length ≤ cc
      · have hr := run_append_room_off (P := P) w t ty E i ht hi g o xs.length cc cur k3 ⟨gx, ox, none⟩ news.length cx news (by rw [hz1, Nat.mul_one]) hnews h1 hroom (by rw [hz1]; omega)
        refine ⟨_, _, hr, ⟨_, _, by rw [List.length_append], by rw [List.length_append]; exact hroom, h3, h1s, .inr ⟨g, o, _, rfl, k2, setRow_heap w g cur _ E _ k3, ?_, fun j y hj => ?_⟩⟩,
          ⟨rfl, rfl, rfl, by simp, fun k _ hk => setRow_other w g k _ (fun e => hk (by simp [e, Value.ownBlock]))⟩, .inl rfl⟩
        · simp only [List.size_toArray, List.length_append, List.length_take, List.length_drop, Array.length_toList]
          rw [hz1]
          omega
        · rw [hz1, Nat.mul_one, List.getElem?_toArray, List.append_assoc]
          by_cases hj2 : j < xs.length
          · rw [List.getElem?_append_left (by simp; omega), List.getElem?_take, if_pos (by omega)]
            rw [List.getElem?_append_left hj2] at hj
            simpa using k5 j y hj
          · have hjl := (List.getElem?_eq_some_iff.1 hj).1
            rw [List.length_append] at hjl
            rw [List.getElem?_append_right (by omega)] at hj
            rw [List.getElem?_append_right (by simp; omega), show o + j - (cur.toList.take (o + xs.length)).length = j - xs.length by simp; omega, List.getElem?_append_left (by omega)]
            exact hj
      · have hr := run_append_grow (P := P) w t ty E i z ht hi hz0 ⟨g, o, none⟩ xs.length cc xs (by rw [hz1]; omega) (fun j y hj => by
            rw [Addr.add_lit, k3.cell]
            exact k5 j y hj) ⟨gx, ox, none⟩ news.length cx news (by rw [hz1, Nat.mul_one]) hnews (by omega) (by omega) (growslice_fits (by omega) (by rw [hz2]; exact hbb))
        have hge := grownCap_ge w (xs.length + news.length) cc E
        have hcm := grownCap_le_maxLen w (xs.length + news.length) cc E h63
        refine ⟨_, _, hr, ⟨_, _, by rw [List.length_append], by rw [List.length_append]; exact hge, hcm, h1s, .inr ⟨w.heap.size, 0, _, rfl, hbase, heap_alloc_new w.drew _, ?_, fun j y hj => ?_⟩⟩,
          ⟨rfl, rfl, rfl, by simp, fun k hk _ => Below.heap_alloc w.drew _ k hk⟩, .inr rfl⟩
        · rw [Array.size_append, Array.size_append, List.size_toArray, List.size_toArray, size_zeroCells, hzs]
          omega
        · rw [Nat.zero_add, Array.getElem?_append_left (by
            have := (List.getElem?_eq_some_iff.1 hj).1
            rw [Array.size_append, List.size_toArray, List.size_toArray]
            simpa using this)]
          rw [show xs.toArray ++ news.toArray = (xs ++ news).toArray by simp, List.getElem?_toArray]
          exact hj
/-- Integers in a slice of the call's own, from wherever in its block. -/
def QI (w : World) (base : Nat) (v : Value) (l : List Int) : Prop := QS w base 3 v (l.map (.int .i64))
section
variable {w w' : World} {base : Nat} {v : Value} {l : List Int} {row : Option Nat}
theorem QI.ri (h : QI w base v l) : RI w v l := QS.ri h
theorem OwnI.qi (h : OwnI w base v l) : QI w base v l := h.qs
theorem QI.grown (h : QI w base v l) (hg : w.grownBy w' row) (hr : NotE w 3 row) : QI w' base v l := QS.grown h hg hr
theorem QI.new (h : QI w base v l) (hg : w.grownBy w' none) : QI w' base v l := QS.new h hg
theorem QI.lt (h : QI w base v l) : ∀ g, v.ownBlock = some g → base ≤ g ∧ g < w.heap.size := QS.lt h
theorem QI.notE {E : TypeId} (h : QI w base v l) (hE : E ≠ 3) : NotE w E v.ownBlock := QS.notE h hE
theorem QI.gb {a : World} (h : QI w base v l) (hg : a.grownBy w row) (k : w.grownBy w' v.ownBlock) (hb : a.heap.size ≤ base) : a.grownBy w' row := QS.gb h hg k hb
theorem QI.nil (w : World) (base : Nat) : QI w base (.slice none 0 0) [] := QS.nil _ _ _
theorem QI.slice (h : QI w base v l) : ∃ A n c, v = .slice A n c ∧ n = l.length ∧ n ≤ c := by
  obtain ⟨A, n, c, h1, h2, h3⟩ := h.ri.form'
  exact ⟨A, n, c, h1, h3, h2⟩
theorem QI.low {b : Nat} (h : QI w base v l) (hab : b ≤ base) : QI w b v l := by
  obtain ⟨A, c, h1, h2, h3, h6, h5⟩ := h
  refine ⟨A, c, h1, h2, h3, h6, ?_⟩
  rcases h5 with h5 | ⟨g, o, cur, k1, k2, k3⟩
  · exact .inl h5
  · exact .inr ⟨g, o, cur, k1, Nat.le_trans hab k2, k3⟩
end
theorem ints_one (l : List Int) : ∀ u ∈ l.map (Value.int .i64), u.oneCell' = true := fun u hu => by
  obtain ⟨x, _, rfl⟩ := List.mem_map.1 hu
  rfl
/-- 'append(s, x...)' of integers. -/
theorem wp_append_ints {ops : Array Oper} {rest : List Oper} {o : Oper} {a : Act} {Q : Exit → Act → World → Prop} {w : World}
    (s x : Operand) (hgd : o.guard = none) (ho : o.op = .call { callee := .builtin .append, args := #[s, x], argTypes := #[22, 22] })
    {base : Nat} {v xv : Value} {l l' : List Int} (hown : QI w base v l) (hxv : RI w xv l') (hn : l.length + l'.length ≤ 1000000000) (hbase : base ≤ w.heap.size)
    (hs : a.eval s = v) (hx : a.eval x = xv)
    (h : ∀ v' w', QI w' base v' (l ++ l') → w.grownBy w' v.ownBlock → (v'.ownBlock = v.ownBlock ∨ v'.ownBlock = some w.heap.size) → wpList Tryd.prog ops Q rest (a.put o.dst v') w') :
    wpList Tryd.prog ops Q (o :: rest) a w := by
  obtain ⟨v', w', hr, h2, h3, h4⟩ := append_qts (P := Tryd.prog) (t := 22) (ty := o.type) Tryd.underlying22 info3 rfl (by decide) hown (x := xv) (news := l'.map (.int .i64)) hxv (ints_one l') (by rw [List.length_map]; exact hn) hbase
  refine wpList_plain hgd fun K hK => ?_
  unfold Oper.wp execOp
  simp only [ho, resolve, invoke, builtin, Sem.run_bind, Sem.run_pure, Result.andThen_ok, List.map_toArray, List.map_cons, List.map_nil, hs, hx, hr]
  refine hK _ _ (h v' w' ?_ h3 h4)
  unfold QI
  rw [List.map_append]
  exact h2
/-- 'append(s, n)' of one integer that lies in a block of its own. -/
theorem wp_append_int {ops : Array Oper} {rest : List Oper} {o : Oper} {a : Act} {Q : Exit → Act → World → Prop} {w : World} {u : Int}
    (s x : Operand) (hgd : o.guard = none) (ho : o.op = .call { callee := .builtin .append, args := #[s, x], argTypes := #[22, 22] })
    {base : Nat} {v : Value} {l : List Int} (hown : QI w base v l) (hn : l.length ≤ 1000000) (hbase : base ≤ w.heap.size)
    (hs : a.eval s = v) {N : Nat} (hx : a.eval x = .slice (some ⟨N, 0, none⟩) 1 1) (hN : N = w.heap.size)
    (h : ∀ v' w', QI w' base v' (l ++ [u]) → w.grownBy w' v.ownBlock → (v'.ownBlock = v.ownBlock ∨ v'.ownBlock = some (w.heap.size + 1)) → wpList Tryd.prog ops Q rest (a.put o.dst v') w') :
    wpList Tryd.prog ops Q (o :: rest) a (w.alloc (.cells #[.int .i64 u] 3)) := by
  subst hN
  have hl : RI (w.alloc (.cells #[.int .i64 u] 3)) (.slice (some ⟨w.heap.size, 0, none⟩) 1 1) [u] := RI.lit w [u]
  refine wp_append_ints s x hgd ho (hown.new (World.grownBy_alloc w _ none)) hl (by simp; omega) (by simp; omega) hs hx fun v' w' h1 h2 h3 => h v' w' h1 ?_ (by simpa using h3)
  exact ⟨h2.os, h2.tape, h2.output, Nat.le_trans (by simp) h2.size, fun k hk hne => (h2.block k (by simp; omega) hne).trans (Below.heap_alloc w _ k hk)⟩

/-- 'append(out, x)' of one integer; the element's block by its number. -/
theorem wp_push_int_n {ops : Array Oper} {rest : List Oper} {o : Oper} {a : Act} {Q : Exit → Act → World → Prop} {w : World} {u : Int}
    (s x : Operand) (hgd : o.guard = none) (ho : o.op = .call { callee := .builtin .append, args := #[s, x], argTypes := #[22, 22] })
    {base : Nat} {v : Value} {l : List Int} (hown : OwnI w base v l) (hn : l.length ≤ 1000000000) (hbase : base ≤ w.heap.size)
    (hs : a.eval s = v) {N : Nat} (hx : a.eval x = .slice (some ⟨N, 0, none⟩) 1 1) (hN : N = w.heap.size)
    (h : ∀ v' w', OwnI w' base v' (l ++ [u]) → w.grownBy w' v.ownBlock → wpList Tryd.prog ops Q rest (a.put o.dst v') w') :
    wpList Tryd.prog ops Q (o :: rest) a (w.alloc (.cells #[.int .i64 u] 3)) := by
  subst hN
  exact wp_push_int s x hgd ho hown hn hbase hs hx h

end Go.Proofs.YthampfkicnakgaaDoor
