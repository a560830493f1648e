/- Walks: (*nodeQueue).put, take. -/
import Derived.Test.YtjlnhijabdkagaaA8Queue
import Derived.Test.YtjlnhijabdkagaaC4Graph
namespace Go.Proofs.Ytjlnhijabdkagaa
open Go.RowKit

theorem wp_push_qs {P : Program} {ops : Array Oper} {rest : List Oper} {o : Oper} {a : Act} {Q : Exit → Act → World → Prop} {w : World} {E : TypeId} {u : Value}
    (s x : Operand) (t : TypeId) (z : Value) (bytes : Nat) (ht : P.underlying t = some (.slice E)) (hinf : (P.info? E).map (fun i => (i.zero, i.size, i.bytes)) = some (some z, 1, bytes))
    (hzs : z.cells.size = 1) (hby : bytes ≤ 128) (hgd : o.guard = none)
    (ho : o.op = .call { callee := .builtin .append, args := #[s, x], argTypes := #[t, t] })
    {base : Nat} {v : Value} {xs : List Value} (hown : QS w base E v xs) (hn : xs.length ≤ 1000000000) (hbase : base ≤ w.heap.size) (h1 : u.oneCell' = true)
    (hs : a.eval s = v) {N : Nat} (hx : a.eval x = .slice (some ⟨N, 0, none⟩) 1 1) (hN : N = w.heap.size)
    (h : ∀ v' w', QS w' base E v' (xs ++ [u]) → w.grownBy w' v.ownBlock → (v'.ownBlock = v.ownBlock ∨ v'.ownBlock = some (w.heap.size + 1)) → wpList P ops Q rest (a.put o.dst v') w') :
    wpList P ops Q (o :: rest) a (w.alloc (.cells #[u] E)) := by
  subst hN
  have hc : (w.alloc (.cells #[u] E)).cell? ⟨w.heap.size, 0, none⟩ = some u := by rw [World.cell?_alloc_new]; rfl
  have h0 : QS (w.alloc (.cells #[u] E)) base E v xs := hown.new (World.grownBy_alloc w _ none)
  obtain ⟨v', w', hr, h2, h3, h4⟩ := append_qs (P := P) (t := t) (ty := o.type) (c := 1) ht hinf hzs hby h0 hc h1 hn (by simp; omega)
  refine wpList_plain hgd fun K hK => ?_
  unfold Oper.wp execOp
  simp only [ho, resolve, invoke, builtin, Sem.run_bind, Sem.run_pure, Result.andThen_ok, List.map_toArray, List.map_cons, List.map_nil, hs, hx, hr]
  refine hK _ _ (h v' w' h2 ?_ (by simpa using h4))
  exact ⟨h3.os, h3.tape, h3.output, Nat.le_trans (by simp) h3.size, fun k hk hne => (h3.block k (by simp; omega) hne).trans (Below.heap_alloc w _ k hk)⟩
theorem own_blk {w w' : World} {base size n : Nat} {E : TypeId} {v : Value} {xs : List Value} (h : w.ownsRow base E size v n xs) (k : ∀ g cs, Blk w g E cs → Blk w' g E cs) : w'.ownsRow base E size v n xs := by
  refine ⟨h.1, ?_⟩
  rcases h.2 with h0 | ⟨g, cap, cur, h1, h2, h3, h4⟩
  · exact .inl h0
  · exact .inr ⟨g, cap, cur, h1, h2, k g cur h3, h4⟩

/-- What a queue's call leaves: blocks of other types stand. -/
structure QFrame (base : Nat) (w w' : World) : Prop where
  b : Below base w w'
  other : ∀ g t cs, t ≠ 86 → t ≠ 125 → Blk w g t cs → Blk w' g t cs
theorem QFrame.refl (base : Nat) (w : World) : QFrame base w w := ⟨Below.refl _ _, fun _ _ _ _ _ h => h⟩
/-- The queue in block qb holds the pointers xs. -/
def Qu (w : World) (base qb : Nat) (xs : List Value) : Prop := base ≤ qb ∧ ∃ qv, Blk w qb 125 #[qv] ∧ QS w base 86 qv xs
theorem Qu.grown {w w' : World} {base qb : Nat} {xs : List Value} {row : Option Nat} (h : Qu w base qb xs) (hg : w.grownBy w' row) (h1 : NotE w 86 row) (h2 : NotE w 125 row) : Qu w' base qb xs := by
  obtain ⟨hb, qv, k1, k2⟩ := h
  exact ⟨hb, qv, k1.grown hg (fun e => h2 _ e.symm _ k1), k2.grown hg h1⟩
def PutPost (w : World) (base qb : Nat) (xs : List Value) (e : Ending) (w' : World) : Prop := e = .returned (.tuple #[]) ∧ Qu w' base qb xs ∧ QFrame base w w'

theorem put_any {w : World} {base qb : Nat} {xs : List Value} {p : Option Addr} (h : Qu w base qb xs) (hn : xs.length ≤ 1000) :
    Calls Try.prog 127 #[.pointer (some ⟨qb, 0, none⟩), .pointer p] w (PutPost w base qb (xs ++ [.pointer p])) := by
  obtain ⟨hb, qv, k1, k2⟩ := h
  have c0 : w.cell? ⟨qb, 0, none⟩ = some qv := k1.cell 0
  have hlt := k1.lt
  go_enter Try.func127, Try.ntmps127
  go_wp2_with (at_builtin; go_must (refine wp_push_qs (.tmp 8) (.tmp 10) 80 _ 8 Try.underlying80 infoPtr rfl (by decide) rfl rfl k2 (by omega) (by omega) rfl rfl rfl rfl ?_))
  intro v' w1 hq hg hob
  obtain ⟨A', c', rfl, -, -⟩ := hq.form
  have hbn : some qb ≠ qv.ownBlock := fun e => k2.notE (show 125 ≠ 86 by decide) qb e.symm _ k1
  have k3 := k1.grown hg hbn
  have d0 : w1.cell? ⟨qb, 0, none⟩ = some qv := k3.cell 0
  have f0 : w1.frozen? ⟨qb, 0, none⟩ = false := k3.frozen 0
  have hst : w1.grownBy (w1.setCell ⟨qb, 0, none⟩ (.slice A' (xs ++ [Value.pointer p]).length c')) (some qb) := gb_set (p := ⟨qb, 0, none⟩) (gb_refl w1 (some qb)) (.inr rfl) _
  have hfin : Hid (PutPost w base qb (xs ++ [.pointer p]) (.returned (.tuple #[])) (w1.setCell ⟨qb, 0, none⟩ (.slice A' (xs ++ [Value.pointer p]).length c'))) := by
    refine ⟨rfl, ⟨hb, _, k3.set_ 0 _, hq.grown hst (NotE.blk k3 (by decide))⟩, ⟨?_, fun g t cs ht ht' hc => ?_⟩⟩
    · exact (gb_of_base hg (fun g e => (k2.lt g e).1) (by omega)).setCell (p := ⟨qb, 0, none⟩) hb _
    · have h1 := hc.grown hg (fun e => k2.notE ht g e.symm _ hc)
      exact h1.far (p := ⟨qb, 0, none⟩) (h1.ne_ k3 ht') _
  clear hst hq hob k3 hg
  generalize (xs ++ [Value.pointer p]).length = m at *
  go_wp2_with fail
  exact bodyPost_ret (results_none rfl _ _ _) rfl hfin.out
def TakePost (w : World) (base qb : Nat) (x : Value) (xs : List Value) (e : Ending) (w' : World) : Prop := e = .returned x ∧ Qu w' base qb xs ∧ QFrame base w w'
theorem take_any {w : World} {base qb : Nat} {x : Value} {xs : List Value} (h : Qu w base qb (x :: xs)) (hn : xs.length ≤ 1000) :
    Calls Try.prog 128 #[.pointer (some ⟨qb, 0, none⟩)] w (TakePost w base qb x xs) := by
  obtain ⟨hb, qv, k1, k2⟩ := h
  obtain ⟨A, c, rfl, hlc, hcm⟩ := k2.form
  obtain ⟨g, o, rfl, hl, hc1, q1, q2⟩ := k2.tail
  obtain ⟨_, _, e, d1⟩ := k2.at_ (k := 0) rfl
  injection e with e
  injection e with e1 e2 _
  subst e1 e2
  rw [Nat.add_zero] at d1
  have c0 : w.cell? ⟨qb, 0, none⟩ = some (.slice (some ⟨g, o, none⟩) (x :: xs).length c) := k1.cell 0
  have f0 : w.frozen? ⟨qb, 0, none⟩ = false := k1.frozen 0
  have fin : ∀ v, QS w base 86 v xs → TakePost w base qb x xs (.returned x) (w.setCell ⟨qb, 0, none⟩ v) := by
    intro v hv
    have hst : w.grownBy (w.setCell ⟨qb, 0, none⟩ v) (some qb) := gb_set (p := ⟨qb, 0, none⟩) (gb_refl w (some qb)) (.inr rfl) _
    exact ⟨rfl, ⟨hb, _, k1.set_ 0 _, hv.grown hst (NotE.blk k1 (by decide))⟩, ⟨(Below.refl _ _).setCell (p := ⟨qb, 0, none⟩) hb _, fun g t cs ht ht' hc => hc.far (p := ⟨qb, 0, none⟩) (hc.ne_ k1 ht') _⟩⟩
  have hlen : (x :: xs).length = xs.length + 1 := rfl
  rw [hlen] at c0 q1 q2 hlc
  unfold maxLen at hcm
  clear hlen k1 k2 hl
  generalize xs.length = m at *
  by_cases hc : c = 1
  · have hfin := Lib.hid (fin _ (q2 hc))
    subst hc
    obtain rfl : m = 0 := by omega
    clear q1 q2 fin
    go_enter Try.func128, Try.ntmps128
    go_wp2_with fail
    go_ret
    exact hfin.out
  · have hfin := Lib.hid (fin _ q1)
    clear q1 q2 fin
    go_enter Try.func128, Try.ntmps128
    go_wp2_with fail
    go_ret
    exact hfin.out
end Go.Proofs.Ytjlnhijabdkagaa
