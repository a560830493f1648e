/- Walks: (*nodeQueue).put, take. -/
import Derived.Test.YthampfkicnakgaaGreatDoorA8Queue
import Derived.Test.YthampfkicnakgaaGreatDoorC4Graph
namespace Go.Proofs.YthampfkicnakgaaGreatDoor
open Go.RowKit

theorem wp_push_qs {P : Program} {ops : Array Oper} {rest : List Oper} {o : Oper} {a : Act} {Q : Exit → Act → World → Prop} {w : World} {E : TypeId} {u : Value}
    (s x : Operand) (t : TypeId) (z : Value) (bytes : Nat) (ht : P.underlying t = some (.slice E)) (hinf : (P.info? E).map (fun i => (i.zero, i.size, i.bytes)) = some (some z, 1, bytes))
    (hzs : z.cells.size = 1) (hby : bytes ≤ 128) (hgd : o.guard = none)
    (ho : o.op = .call { callee := .builtin .append, args := #[s, x], argTypes := #[t, t] })
    {base : Nat} {v : Value} {xs : List Value} (hown : QS w base E v xs) (hn : xs.length ≤ 1000000000) (hbase : base ≤ w.heap.size) (h1 : u.oneCell' = true)
    (hs : a.eval s = v) {N : Nat} (hx : a.eval x = .slice (some ⟨N, 0, none⟩) 1 1) (hN : N = w.heap.size)
    (h : ∀ v' w', QS w' base E v' (xs ++ [u]) → w.grownBy w' v.ownBlock → (v'.ownBlock = v.ownBlock ∨ v'.ownBlock = some (w.heap.size + 1)) → wpList P ops Q rest (a.put o.dst v') w') :
    wpList P ops Q (o :: rest) a (w.alloc (.cells #[u] E)) := by
  subst hN
  have hc : (w.alloc (.cells #[u] E)).cell? ⟨w.heap.size, 0, none⟩ = some u := by rw [World.cell?_alloc_new]; rfl
  have h0 : QS (w.alloc (.cells #[u] E)) base E v xs := hown.new (World.grownBy_alloc w _ none)
  obtain ⟨v', w', hr, h2, h3, h4⟩ := append_qs (P := P) (t := t) (ty := o.type) (c := 1) ht hinf hzs hby h0 hc h1 hn (by simp; omega)
  refine wpList_plain hgd fun K hK => ?_
  unfold Oper.wp execOp
  simp only [ho, resolve, invoke, builtin, Sem.run_bind, Sem.run_pure, Result.andThen_ok, List.map_toArray, List.map_cons, List.map_nil, hs, hx, hr]
  refine hK _ _ (h v' w' h2 ?_ (by simpa using h4))
  exact ⟨h3.os, h3.tape, h3.output, Nat.le_trans (by simp) h3.size, fun k hk hne => (h3.block k (by simp; omega) hne).trans (Below.heap_alloc w _ k hk)⟩
theorem own_blk {w w' : World} {base size n : Nat} {E : TypeId} {v : Value} {xs : List Value} (h : w.ownsRow base E size v n xs) (k : ∀ g cs, Blk w g E cs → Blk w' g E cs) : w'.ownsRow base E size v n xs := by
  refine ⟨h.1, ?_⟩
  rcases h.2 with h0 | ⟨g, cap, cur, h1, h2, h3, h4⟩
  · exact .inl h0
  · exact .inr ⟨g, cap, cur, h1, h2, k g cur h3, h4⟩

end Go.Proofs.YthampfkicnakgaaGreatDoor
