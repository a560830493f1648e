/- Words for memory: a crew of the call's own whose parts are put in anew; its deques may begin inside their blocks. Conditions: none. · errors.Is by its contracts, at the sentinel of impl's turns: of no error, and of an error that unwraps to it. · Walks: (*deque).different, impl.DequeValid, DequePop, DequeSteal. -/
import Derived.Test.YtihobnheficpjaaGreatDoorM29
import Derived.Test.YtihobnheficpjaaGreatDoorM13
import Derived.LaidEql
import Derived.Stop.Asserts
import Derived.RowKitTokens
import Derived.Maps.OwnOps
import Derived.Maps.OwnSet
namespace Go.Proofs.YtihobnheficpjaaGreatDoor
open Go.RowKit

theorem Apart.set_ne {xs : List Value} {k : Nat} {f : Value} (h : Apart xs) (hne : ∀ u ∈ xs, ∀ g, u.ownBlock = some g → f.ownBlock ≠ some g) : Apart (xs.set k f) := by
  rw [Apart.iff] at *
  intro i j u u' g hij hi hj hg
  rw [List.getElem?_set] at hi hj
  split at hi
  · rename_i e
    subst e
    split at hi
    · injection hi with hi
      subst hi
      rw [if_neg (by omega)] at hj
      exact fun e' => hne u' (List.mem_of_getElem? hj) g e' hg
    · cases hi
  · split at hj
    · split at hj
      · injection hj with hj
        subst hj
        exact hne u (List.mem_of_getElem? hi) g hg
      · cases hj
    · exact h i j u u' g hij hi hj hg
theorem QI.apart_ {w w' : World} {base : Nat} {v : Value} {l : List Int} {row : Option Nat} (h : QI w base v l) (hg : w.grownBy w' row) (hr : v.ownBlock = none ∨ v.ownBlock ≠ row) : QI w' base v l := QS.apart h hg hr
theorem QI.block {w : World} {base g : Nat} {v : Value} {l : List Int} (h : QI w base v l) (hg : v.ownBlock = some g) : ∃ cur, Blk w g 3 cur := by
  obtain ⟨A, c, rfl, _, _, _, h5⟩ := h
  rcases h5 with ⟨rfl, _⟩ | ⟨g', o, cur, rfl, _, k3, _⟩
  · cases hg
  · cases hg
    exact ⟨cur, k3⟩
/-- A row of rows of the call's own, each from wherever in its block. -/
def LQ (w : World) (base : Nat) (v : Value) (ll : List (List Int)) (xs : List Value) : Prop :=
  w.ownsRow base 25 1 v ll.length xs ∧ ∀ (i : Nat) (l : List Int), ll[i]? = some l → ∃ u, xs[i]? = some u ∧ QI w base u l
section
variable {w w' : World} {v : Value} {ll : List (List Int)} {base : Nat} {row : Option Nat} {xs : List Value}
theorem LX.lq (h : LX w base v ll xs) : LQ w base v ll xs := ⟨h.1, fun i l hi => let ⟨u, k1, k2⟩ := h.2 i l hi; ⟨u, k1, k2.qi⟩⟩
theorem LQ.grown (h : LQ w base v ll xs) (hg : w.grownBy w' row) (hr : NotE w 3 row) (hr' : NotE w 25 row) : LQ w' base v ll xs := by
  refine ⟨own_grown h.1 hg hr', fun i l hi => ?_⟩
  obtain ⟨u, k1, k2⟩ := h.2 i l hi
  exact ⟨u, k1, k2.grown hg hr⟩
theorem LQ.new (h : LQ w base v ll xs) (hg : w.grownBy w' none) : LQ w' base v ll xs := h.grown hg (NotE.none _ _) (NotE.none _ _)
theorem LQ.rl (h : LQ w base v ll xs) : RL w v ll := ⟨xs, TS.of_own h.1, fun i l hi => let ⟨u, k1, k2⟩ := h.2 i l hi; ⟨u, k1, k2.ri⟩⟩
theorem LQ.lt (h : LQ w base v ll xs) : ∀ g, v.ownBlock = some g → base ≤ g ∧ g < w.heap.size := World.ownsRow.lt h.1
theorem LQ.len (h : LQ w base v ll xs) : xs.length = ll.length := by have := h.1.1; omega
theorem LQ.lts (h : LQ w base v ll xs) : ∀ u ∈ xs, ∀ g, u.ownBlock = some g → base ≤ g ∧ g < w.heap.size := by
  intro u hu g hg
  obtain ⟨i, hi, rfl⟩ := List.getElem_of_mem hu
  have hl := h.len
  obtain ⟨u', k1, k2⟩ := h.2 i _ (List.getElem?_eq_getElem (by omega))
  rw [List.getElem?_eq_getElem hi] at k1
  cases k1
  exact k2.lt g hg
theorem LQ.low {a b : Nat} (h : LQ w a v ll xs) (hab : b ≤ a) : LQ w b v ll xs := by
  refine ⟨⟨h.1.1, ?_⟩, fun i l hi => let ⟨u, k1, k2⟩ := h.2 i l hi; ⟨u, k1, k2.low hab⟩⟩
  rcases h.1.2 with h0 | ⟨g, cap, cur, h1, h2, h3⟩
  · exact .inl h0
  · exact .inr ⟨g, cap, cur, h1, Nat.le_trans hab h2, h3⟩
theorem LQ.notE (h : LQ w base v ll xs) {E : TypeId} (hE : E ≠ 25) : NotE w E v.ownBlock := NotE.own h.1 hE
theorem LQ.far {g : Nat} (h : LQ w base v ll xs) (hg : w.grownBy w' (some g)) (hi : NotE w 3 (some g)) (hne : v.ownBlock ≠ some g) : LQ w' base v ll xs := by
  obtain ⟨h1, h2⟩ := h
  have hlt := World.ownsRow.lt h1
  refine ⟨⟨h1.1, ?_⟩, fun i l hl => let ⟨u, k1, k2⟩ := h2 i l hl; ⟨u, k1, k2.grown hg hi⟩⟩
  rcases h1.2 with h0 | ⟨g', cap, cur, rfl, k2, k3, k4⟩
  · exact .inl h0
  · exact .inr ⟨g', cap, cur, rfl, k2, (hg.block g' (hlt g' rfl).2 (fun e => hne (by rw [← e]; rfl))).trans k3, k4⟩
theorem LQ.apart_ {b : Nat} {cur : Array Value} (h : LQ w base v ll xs) (hg : w.grownBy w' (some b)) (hB : Blk w b 3 cur) (hx : ∀ u ∈ xs, u.ownBlock ≠ some b) : LQ w' base v ll xs := by
  have hne : NotE w 25 (some b) := NotE.blk hB (by decide)
  refine ⟨own_grown h.1 hg hne, fun i l hi => ?_⟩
  obtain ⟨u, k1, k2⟩ := h.2 i l hi
  exact ⟨u, k1, k2.apart_ hg (.inr (hx u (List.mem_of_getElem? k1)))⟩
theorem LQ.form {n : Nat} (h : LQ w base v ll xs) (hn : ll.length = n) (h0 : 0 < n) : ∃ g cap, v = .slice (some ⟨g, 0, none⟩) n cap ∧ n ≤ cap ∧ base ≤ g := by
  subst hn
  rcases h.1.2 with ⟨rfl, hz⟩ | ⟨g, cap, cur, rfl, hb, hh, hn, _, hcs, ht⟩
  · omega
  · exact ⟨g, cap, rfl, hn, hb⟩
end
theorem LQ.cell {w : World} {base g n cap k : Nat} {ll : List (List Int)} {xs : List Value} (h : LQ w base (.slice (some ⟨g, 0, none⟩) n cap) ll xs) (hk : k < ll.length) : ∃ u, w.cell? ⟨g, k, none⟩ = some u ∧ w.frozen? ⟨g, k, none⟩ = false := by
  rcases h.1.2 with ⟨e0, hz⟩ | ⟨g', cap', cur, e0, hb, hh, hn, hm, hcs, ht⟩
  · cases e0
  · injection e0 with e1 e2 e3
    injection e1 with e1
    injection e1 with e1
    subst e1 e3
    have hB : Blk w g 25 cur := hh
    refine ⟨cur[k]'(by rw [hcs]; omega), ?_, hB.frozen _⟩
    rw [hB.cell]
    exact Array.getElem?_eq_getElem (by rw [hcs]; omega)
theorem LQ.set_ {w : World} {base g n cap k : Nat} {ll : List (List Int)} {l : List Int} {f : Value} {xs : List Value} (h : LQ w base (.slice (some ⟨g, 0, none⟩) n cap) ll xs) (hk : k < ll.length) (hf : QI w base f l) :
    LQ (w.setCell ⟨g, k, none⟩ f) base (.slice (some ⟨g, 0, none⟩) n cap) (ll.set k l) (xs.set k f) := by
  have hxl := h.len
  obtain ⟨h1, h2⟩ := h
  have hn : n = ll.length := by
    rcases h1.2 with ⟨e0, hz⟩ | ⟨g', cap', cur, e0, _⟩
    · cases e0
    · injection e0
  subst hn
  have s1 := World.ownsRow.stored h1 k f
  have hne : NotE w 3 (some g) := NotE.own (v := .slice (some ⟨g, 0, none⟩) ll.length cap) h1 (by decide)
  refine ⟨by rw [List.length_set]; exact s1.1, fun i x hi => ?_⟩
  by_cases hik : i = k
  · subst hik
    rw [List.getElem?_set_self hk] at hi
    obtain rfl : l = x := by simpa using hi
    exact ⟨f, by rw [List.getElem?_set_self (by omega)], hf.grown s1.2 hne⟩
  · rw [List.getElem?_set_ne (fun e => hik e.symm)] at hi
    obtain ⟨u, k1, k2⟩ := h2 i x hi
    exact ⟨u, by rw [List.getElem?_set_ne (fun e => hik e.symm)]; exact k1, k2.grown s1.2 hne⟩
/-- A crew in block X, its rows of the call's own. -/
structure BoxQ (w : World) (base X : Nat) (d k o r : Value) (D : List (List Int)) (N : List Int) (Rw : List (List Int)) (xs ys : List Value) : Prop where
  x : Blk w X 27 #[d, k, o, r]
  dq : LQ w base d D xs
  dn : OwnI w base o N
  ro : LX w base r Rw ys
  al : Apart (o :: (xs ++ ys))
  dr : ∀ g, d.ownBlock = some g → r.ownBlock ≠ some g
section
variable {w w' : World} {base X : Nat} {d k o r : Value} {D Rw : List (List Int)} {N : List Int} {xs ys : List Value}
theorem BoxQ.new (h : BoxQ w base X d k o r D N Rw xs ys) (hg : w.grownBy w' none) : BoxQ w' base X d k o r D N Rw xs ys := ⟨h.x.grown hg (by simp), h.dq.new hg, h.dn.new hg, h.ro.new hg, h.al, h.dr⟩
theorem BoxQ.lts (h : BoxQ w base X d k o r D N Rw xs ys) : ∀ u ∈ o :: (xs ++ ys), ∀ g, u.ownBlock = some g → base ≤ g ∧ g < w.heap.size := by
  intro u hu g hg
  rcases List.mem_cons.1 hu with rfl | hu
  · exact h.dn.lt g hg
  · rcases List.mem_append.1 hu with hu | hu
    · exact h.dq.lts u hu g hg
    · exact h.ro.lts u hu g hg
theorem BoxQ.cv {C : List Int} (h : BoxQ w base X d k o r D N Rw xs ys) (hk : RI w k C) : CV w (.agg #[d, k, o, r]) ⟨D, C, N, Rw⟩ := ⟨d, k, o, r, rfl, h.dq.rl, hk, h.dn.ri, h.ro.rl⟩
/-- One row is put in that lies in no block of theirs. -/
theorem BoxQ.setRow {gr n cap m : Nat} {f : Value} {l : List Int} (h : BoxQ w base X d k o (.slice (some ⟨gr, 0, none⟩) n cap) D N Rw xs ys) (hm : m < Rw.length) (hf : OwnI w base f l) (hne : ∀ u ∈ o :: (xs ++ ys), ∀ g, u.ownBlock = some g → f.ownBlock ≠ some g) :
    (∃ u, w.cell? ⟨gr, m, none⟩ = some u ∧ w.frozen? ⟨gr, m, none⟩ = false) ∧ w.grownBy (w.setCell ⟨gr, m, none⟩ f) (some gr) ∧ base ≤ gr ∧ NotE w 27 (some gr) ∧ NotE w 3 (some gr) ∧ NotE w 149 (some gr) ∧
    BoxQ (w.setCell ⟨gr, m, none⟩ f) base X d k o (.slice (some ⟨gr, 0, none⟩) n cap) D N (Rw.set m l) xs (ys.set m f) := by
  have hst : w.grownBy (w.setCell ⟨gr, m, none⟩ f) (some gr) := gb_set (p := ⟨gr, m, none⟩) (gb_refl w (some gr)) (.inr rfl) _
  have hI : NotE w 3 (some gr) := h.ro.notE (by decide)
  have hE : NotE w 27 (some gr) := h.ro.notE (by decide)
  refine ⟨h.ro.cell hm, hst, (h.ro.lt gr rfl).1, hE, hI, h.ro.notE (by decide), h.x.grown hst (fun e => by injection e with e; exact hE _ rfl _ (e ▸ h.x)), h.dq.far hst hI (fun e => h.dr gr e rfl), h.dn.grown hst hI, h.ro.set_ hm hf, ?_, h.dr⟩
  have hyl : ys.length = Rw.length := h.ro.len
  have e : o :: (xs ++ ys.set m f) = (o :: (xs ++ ys)).set (xs.length + m + 1) f := by
    rw [List.set_cons_succ, List.set_append_right _ _ (by omega), show xs.length + m - xs.length = m by omega]
  rw [e]
  exact h.al.set_ne hne
/-- One deque is put in that lies in no block of theirs. -/
theorem BoxQ.setDq {gd n cap j : Nat} {f : Value} {l : List Int} (h : BoxQ w base X (.slice (some ⟨gd, 0, none⟩) n cap) k o r D N Rw xs ys) (hj : j < D.length) (hf : QI w base f l) (hne : ∀ u ∈ o :: (xs ++ ys), ∀ g, u.ownBlock = some g → f.ownBlock ≠ some g) :
    (∃ u, w.cell? ⟨gd, j, none⟩ = some u ∧ w.frozen? ⟨gd, j, none⟩ = false) ∧ w.grownBy (w.setCell ⟨gd, j, none⟩ f) (some gd) ∧ base ≤ gd ∧ NotE w 27 (some gd) ∧ NotE w 3 (some gd) ∧
    BoxQ (w.setCell ⟨gd, j, none⟩ f) base X (.slice (some ⟨gd, 0, none⟩) n cap) k o r (D.set j l) N Rw (xs.set j f) ys := by
  have hst : w.grownBy (w.setCell ⟨gd, j, none⟩ f) (some gd) := gb_set (p := ⟨gd, j, none⟩) (gb_refl w (some gd)) (.inr rfl) _
  have hI : NotE w 3 (some gd) := h.dq.notE (by decide)
  have hE : NotE w 27 (some gd) := h.dq.notE (by decide)
  refine ⟨h.dq.cell hj, hst, (h.dq.lt gd rfl).1, hE, hI, h.x.grown hst (fun e => by injection e with e; exact hE _ rfl _ (e ▸ h.x)), h.dq.set_ hj hf, h.dn.grown hst hI, h.ro.far hst hI (fun e => h.dr gd rfl e), ?_, h.dr⟩
  have hxl : xs.length = D.length := h.dq.len
  have e : o :: (xs.set j f ++ ys) = (o :: (xs ++ ys)).set (j + 1) f := by
    rw [List.set_cons_succ, List.set_append_left _ _ (by omega)]
  rw [e]
  exact h.al.set_ne hne
/-- The counts are written anew. -/
theorem BoxQ.put (h : BoxQ w base X d k o r D N Rw xs ys) {k' : Value} : BoxQ (w.setCell ⟨X, 1, none⟩ k') base X d k' o r D N Rw xs ys := by
  have hst : w.grownBy (w.setCell ⟨X, 1, none⟩ k') (some X) := gb_set (p := ⟨X, 1, none⟩) (gb_refl w (some X)) (.inr rfl) _
  have hn : NotE w 3 (some X) := NotE.blk h.x (by decide)
  have hn' : NotE w 25 (some X) := NotE.blk h.x (by decide)
  exact ⟨h.x.set_ 1 _, h.dq.grown hst hn hn', h.dn.grown hst hn, h.ro.grown hst hn hn', h.al, h.dr⟩
/-- One more node is done. -/
theorem BoxQ.more {o' : Value} {N' : List Int} (h : BoxQ w base X d k o r D N Rw xs ys) (hg : w.grownBy w' o.ownBlock) (ho : OwnI w' base o' N') (hb : o'.ownBlock = o.ownBlock ∨ ∃ b, o'.ownBlock = some b ∧ w.heap.size ≤ b) :
    w'.cell? ⟨X, 2, none⟩ = some o ∧ w'.frozen? ⟨X, 2, none⟩ = false ∧ BoxQ (w'.setCell ⟨X, 2, none⟩ o') base X d k o' r D N' Rw xs ys := by
  have hEc : NotE w 27 o.ownBlock := h.dn.notE (by decide)
  have hx := h.x.grown hg (fun e => hEc _ e.symm _ h.x)
  have hst : w'.grownBy (w'.setCell ⟨X, 2, none⟩ o') (some X) := gb_set (p := ⟨X, 2, none⟩) (gb_refl w' (some X)) (.inr rfl) _
  have hn : NotE w' 3 (some X) := NotE.blk hx (by decide)
  have hn' : NotE w' 25 (some X) := NotE.blk hx (by decide)
  have hdq : LQ w' base d D xs := by
    cases e : o.ownBlock with
    | none => rw [e] at hg; exact h.dq.new hg
    | some b =>
      rw [e] at hg
      obtain ⟨cur, hB⟩ := h.dn.block e
      exact h.dq.apart_ hg hB (h.al.mem_ne e).1
  have hro : LX w' base r Rw ys := by
    cases e : o.ownBlock with
    | none => rw [e] at hg; exact h.ro.new hg
    | some b =>
      rw [e] at hg
      obtain ⟨cur, hB⟩ := h.dn.block e
      exact h.ro.apart_ hg hB (h.al.mem_ne e).2
  refine ⟨hx.cell 2, hx.frozen 2, hx.set_ 2 _, hdq.grown hst hn hn', ho.grown hst hn, hro.grown hst hn hn', ?_, h.dr⟩
  refine List.pairwise_cons.2 ⟨fun u hu g hg' => ?_, (List.pairwise_cons.1 h.al).2⟩
  rcases hb with e | ⟨b, e, hbs⟩
  · rw [e] at hg'
    exact (List.pairwise_cons.1 h.al).1 u hu g hg'
  · rw [e] at hg'
    injection hg' with hg'
    intro hu'
    have := (h.lts u (List.mem_cons_of_mem _ hu) g hu').2
    omega
end
/-- A crew all of the call's own; no two of its parts in one block. -/
def OwnF (w : World) (base : Nat) (v : Value) (c : Crew) : Prop :=
  ∃ d k o r xs ys, v = .agg #[d, k, o, r] ∧ LQ w base d c.deques xs ∧ OwnI w base k c.counts ∧ OwnI w base o c.done ∧ LX w base r c.rows ys ∧ Apart (k :: o :: (xs ++ ys)) ∧ (∀ g, d.ownBlock = some g → r.ownBlock ≠ some g)
theorem OwnF.cv {w : World} {base : Nat} {v : Value} {c : Crew} (h : OwnF w base v c) : CV w v c := by
  obtain ⟨d, k, o, r, xs, ys, rfl, h1, h2, h3, h4, _⟩ := h
  exact ⟨d, k, o, r, rfl, h1.rl, h2.ri, h3.ri, h4.rl⟩
theorem OwnF.new {w w' : World} {base : Nat} {v : Value} {c : Crew} (h : OwnF w base v c) (hg : w.grownBy w' none) : OwnF w' base v c := by
  obtain ⟨d, k, o, r, xs, ys, rfl, h1, h2, h3, h4, h5⟩ := h
  exact ⟨d, k, o, r, xs, ys, rfl, h1.new hg, h2.new hg, h3.new hg, h4.new hg, h5⟩
theorem OwnF.grown {w w' : World} {base : Nat} {v : Value} {c : Crew} {row : Option Nat} (h : OwnF w base v c) (hg : w.grownBy w' row) (hr : NotE w 3 row) (hr' : NotE w 25 row) : OwnF w' base v c := by
  obtain ⟨d, k, o, r, xs, ys, rfl, h1, h2, h3, h4, h5⟩ := h
  exact ⟨d, k, o, r, xs, ys, rfl, h1.grown hg hr hr', h2.grown hg hr, h3.grown hg hr, h4.grown hg hr hr', h5⟩
theorem OwnF.low {w : World} {a b : Nat} {v : Value} {c : Crew} (h : OwnF w a v c) (hab : b ≤ a) : OwnF w b v c := by
  obtain ⟨d, k, o, r, xs, ys, rfl, h1, h2, h3, h4, h5⟩ := h
  exact ⟨d, k, o, r, xs, ys, rfl, h1.low hab, h2.low hab, h3.low hab, h4.low hab, h5⟩
end Go.Proofs.YtihobnheficpjaaGreatDoor
namespace Go.Proofs.YtihobnheficpjaaGreatDoor
open Go.RowKit Go.Extern.Stop Go.Stop Go.Extern

theorem is_typeOf (v : Value) (w : World) : (ReflectliteType.typeOf #[.iface 205 v]).run Tryz.prog w = .ok (.iface 153 (.agg #[.pointer (some ⟨1, 205, none⟩)])) w := by kernel_rfl
theorem is_methodComparable (v : Value) (w : World) : (Go.method 341 153 v "Comparable").run Tryz.prog w = .ok (209, v) w := by kernel_rfl
theorem is_comparable (w : World) : ((ReflectliteType.method fun t => do Rtype.noPackHeld "Comparable" t; Functor.map (fun a => Value.bool a.comparable) (typeInfo t)) #[.agg #[.pointer (some ⟨1, 205, none⟩)]]).run Tryz.prog w = .ok (.bool true) w := by kernel_rfl
theorem is_comp : (Tryz.prog.info? 205).map (·.comparable) = some true := by kernel_rfl
theorem is_size : (Tryz.prog.info? 229).map (·.size) = some 1 := by kernel_rfl
theorem is_noIs (v : Value) (xT : TypeId) (w : World) : (Instr.typeAssert (.iface 110 v) xT 155 true).run Tryz.prog w = .ok (.tuple #[.nilIface, .bool false]) w := run_typeAssert_lacksB Tryz.underlying155 (by kernel_rfl) (by kernel_rfl) v xT w
theorem is_unwraps (v : Value) (xT : TypeId) (w : World) : (Instr.typeAssert (.iface 110 v) xT 158 true).run Tryz.prog w = .ok (.tuple #[.iface 110 v, .bool true]) w := run_typeAssert_hasB Tryz.underlying158 (by kernel_rfl) v xT w
theorem is_methodUnwrap (v : Value) (w : World) : (Go.method 341 110 v "Unwrap").run Tryz.prog w = .ok (205, v) w := by kernel_rfl
/-- What the sentinel's variable holds. -/
def ErrTurn (w : World) (a : Addr) : Prop := w.cell? ⟨0, 0, none⟩ = some (.iface 205 (.pointer (some a)))
theorem ErrTurn.new {w w' : World} {a : Addr} (h : ErrTurn w a) (hg : w.grownBy w' none) : ErrTurn w' a := cell_new h hg
set_option maxRecDepth 20000 in
theorem turnUnwrap_any (s : ByteArray) (a : Addr) (w : World) (h : ErrTurn w a) : Calls Tryz.prog 205 #[.agg #[.string s]] w fun e w' => e = .returned (.iface 205 (.pointer (some a))) ∧ w.grownBy w' none := by
  have h1 := h.new (World.grownBy_alloc w (.cells #[.string s] 110) none)
  unfold ErrTurn at h1
  go_enter Tryz.func205, Tryz.ntmps205
  go_wp2_with fail
  go_ret
  exact ⟨rfl, World.grownBy_alloc _ _ _⟩
theorem is_eqnil (a : Addr) (w : World) : (binOp BinOp.eql 64 .nilIface (.iface 205 (.pointer (some a)))).run Tryz.prog w = .ok (.bool false) w := by kernel_rfl
set_option maxRecDepth 20000 in
theorem isNil_any (a : Addr) (w : World) : Calls Tryz.prog 51 #[.nilIface, .iface 205 (.pointer (some a))] w fun e w' => e = .returned (.bool false) ∧ w' = w := by
  have e0 := is_eqnil a
  go_enter Tryz.func51, Tryz.ntmps51
  go_wp2_with fail
  go_ret
  exact ⟨rfl, rfl⟩
set_option maxRecDepth 100000 in
theorem isTurn_any (s : ByteArray) (a : Addr) (w : World) (h : ErrTurn w a) : Calls Tryz.prog 95 #[.iface 110 (.agg #[.string s]), .iface 205 (.pointer (some a)), .bool true] w fun e w' => e = .returned (.bool true) ∧ w.grownBy w' none := by
  obtain ⟨i, hi, hcmp⟩ := Option.map_eq_some_iff.1 is_comp
  obtain ⟨j, hj, hjs⟩ := Option.map_eq_some_iff.1 is_size
  have n1 := is_noIs
  have n2 := is_unwraps
  have n3 := is_methodUnwrap
  have hty := fun w => run_eql_iface_types (P := Tryz.prog) 110 205 (.agg #[.string s]) (.pointer (some a)) Tryz.underlying64 (by decide) w
  have heq := fun w => run_eql_iface_ptr_same (P := Tryz.prog) w a Tryz.underlying64 Tryz.underlying205 hi hcmp hj
  go_enter Tryz.func95, Tryz.ntmps95
  go_wp2_with fail
  refine wp_loop_rounds 2 ?_
  rw [rounds_succ]
  go_wp2_with fail
  refine (turnUnwrap_any s a w h).mono ?_
  rintro e w1 ⟨rfl, hg1⟩
  go_wp2_with fail
  rw [rounds_succ]
  go_wp2_with fail
  go_ret
  exact ⟨rfl, hg1⟩
set_option maxRecDepth 100000 in
theorem isErr_any (s : ByteArray) (a : Addr) (w : World) (h : ErrTurn w a) : Calls Tryz.prog 51 #[.iface 110 (.agg #[.string s]), .iface 205 (.pointer (some a))] w fun e w' => e = .returned (.bool true) ∧ w.grownBy w' none := by
  have h10 := run_callFunc_extern (P := Tryz.prog) (f := 94) (e := ReflectliteType.typeOf) Tryz.func94 (by kernel_rfl) (by kernel_rfl) (by kernel_rfl) (by kernel_rfl)
  have h11 := run_callFunc_extern (P := Tryz.prog) (f := 209) (e := ReflectliteType.method fun t => do Rtype.noPackHeld "Comparable" t; pure (.bool (← typeInfo t).comparable)) Tryz.func209 (by kernel_rfl) (by kernel_rfl) (by kernel_rfl) (by kernel_rfl)
  have t1 := is_typeOf
  have t2 := is_methodComparable
  have t3 := is_comparable
  go_enter Tryz.func51, Tryz.ntmps51
  go_wp2_with fail
  refine (isTurn_any s a w h).mono ?_
  rintro e w1 ⟨rfl, hg1⟩
  go_wp2_with fail
  go_ret
  exact ⟨rfl, hg1⟩
end Go.Proofs.YtihobnheficpjaaGreatDoor
namespace Go.Proofs.YtihobnheficpjaaGreatDoor
open Go.RowKit

/-- A map whose keys are what a list has. -/
structure KeysOf (D : DataW Unit) (L : List Int) : Prop where
  t : Maps.Tidy D
  h : ∀ x : Int, Maps.has D (.int .i64 x) = decide (x ∈ L)
  le : Maps.size D ≤ L.length
  nd : Maps.size D = L.length ↔ L.Nodup
theorem KeysOf.nil : KeysOf (.map []) [] := ⟨Maps.tidy_empty, fun x => by simp [Maps.has], by simp [Maps.size], by simp [Maps.size]⟩
theorem KeysOf.put {D : DataW Unit} {L : List Int} (h : KeysOf D L) (x : Int) (d : DataW Unit) : KeysOf (D.put (.int .i64 x) d) (L ++ [x]) := by
  have hs := Maps.size_put (k := .int .i64 x) h.t d
  rw [h.h x] at hs
  have hle := h.le
  have hnd := h.nd
  refine ⟨h.t.put (show WideAt.IsKeyLit (.int .i64 x) from trivial) d, fun y => ?_, ?_, ?_⟩
  · by_cases e : y = x
    · subst e
      rw [Maps.has_put_same h.t.isMap (show WideAt.IsKeyLit (.int .i64 y) from trivial)]
      simp
    · rw [Maps.has_put_other (fun e' => e (by injection e')), h.h y]
      simp [e]
  · rw [hs, List.length_append, List.length_singleton]
    split <;> omega
  · have hap : (L ++ [x]).Nodup ↔ L.Nodup ∧ x ∉ L := by
      rw [List.nodup_append]
      constructor
      · rintro ⟨h1, _, h3⟩
        exact ⟨h1, fun hx => h3 x hx x (by simp) rfl⟩
      · rintro ⟨h1, h2⟩
        refine ⟨h1, by simp, fun a ha b hb e => h2 ?_⟩
        obtain rfl : b = x := by simpa using hb
        exact e ▸ ha
    rw [hap, hs, List.length_append, List.length_singleton]
    by_cases hx : x ∈ L
    · rw [decide_eq_true hx, if_pos rfl]
      constructor
      · intro e; omega
      · intro e; exact absurd hx e.2
    · rw [decide_eq_false hx, if_neg (by simp)]
      constructor
      · intro e; exact ⟨hnd.1 (by omega), hx⟩
      · intro e; have := hnd.2 e.1; omega
theorem KeysOf.step {D : DataW Unit} {l : List Int} {k : Nat} {x : Int} (h : KeysOf D (l.take k)) (hx : l[k]? = some x) (d : DataW Unit) : KeysOf (D.put (.int .i64 x) d) (l.take (k + 1)) := by
  obtain ⟨h1, rfl⟩ := List.getElem?_eq_some_iff.1 hx
  rw [List.take_succ_eq_append_getElem h1]
  exact h.put _ d
theorem mapLaw : Maps.Keyed Tryz.prog 3 := Maps.int_keyed Tryz.underlying3
theorem mapZero (w : World) : (zeroValue 3).run Tryz.prog w = .ok (.int .i64 0) w := by kernel_rfl
def SeenAt (w wr : World) (l : List Int) (k : Nat) : Prop := ∃ D : DataW Unit, wr.ownsMap Tryz.prog 3 (plainElem Tryz.prog 3) w.heap.size k D ∧ KeysOf D (l.take k) ∧ w.grownBy wr none
set_option maxRecDepth 20000 in
theorem different_b (tb : Nat) (u : Value) (l : List Int) (w : World) (hB : Blk w tb 149 #[u]) (hr : RI w u l) (hl : l.length ≤ 10) (hx : ∀ x ∈ l, 0 ≤ x ∧ x ≤ 9) {b : Bool} (hb : decide l.Nodup = b) :
    Calls Tryz.prog 146 #[.pointer (some ⟨tb, 0, none⟩)] w fun e w' => e = .returned (.bool b) ∧ w.grownBy w' none := by
  obtain ⟨A, n, c, rfl, -, hn⟩ := hr.form'
  have hmm := run_makeMap (P := Tryz.prog)
  have Hn := Lib.hid hn
  have Hb := Lib.hid hb
  have Hx := Lib.hid hx
  have hn10 : n ≤ 10 := by omega
  have c0 := (hB.alloc (.map #[] 0)).cell 0
  clear hn hb hx hl
  have hst : SeenAt w (w.alloc (.map #[] 0)) l 0 := ⟨_, World.ownsMap_made _ _ _ _, by rw [List.take_zero]; exact KeysOf.nil, gb_alloc (gb_refl w none) _⟩
  go_enter Tryz.func146, Tryz.ntmps146
  go_wp2_with fail
  go_loopg [12] (n + 1) (fun mm i wr => ∃ k : Nat, k ≤ n ∧ mm = n + 1 - k ∧ i = .int .i64 k ∧ SeenAt w wr l k)
  case atStart => exact ⟨0, Nat.zero_le _, rfl, rfl, hst⟩
  case round =>
    obtain ⟨k, hk, rfl, rfl, D, hown, hks, hg⟩ := hrel
    clear hst
    by_cases hlt : k < n
    · obtain ⟨g, o, x, rfl, hx, c1⟩ := (hr.new hg).at_ hlt
      have hxin := Hx.out x (List.mem_of_getElem? hx)
      have Hk := Lib.hid (fun d => hks.step hx d)
      have hkey : keyOf Tryz.prog 3 (.int .i64 x) = some (.int .i64 x) := Maps.keyOf_int_mk Tryz.underlying3 (WalkArith.wf_i64 (by omega))
      clear hx hks
      go_wp2_with (first
        | (at_lookup; refine wpList_lookup_own_int _ rfl _ _ 195 rfl 3 3 .i64 mapLaw Tryz.underlying195 Tryz.underlying3 (mapZero _) w.heap.size k _ rfl hown _ _ rfl hkey ?_; intro cv hat hwc)
        | (at_mapUpdate; refine wpList_mapUpdate_own _ rfl _ _ _ 195 rfl 3 3 mapLaw Tryz.underlying195 _ w.heap.size k _ rfl hown (by unfold maxLen; omega) _ _ _ rfl rfl hkey _ [] (plainElem_int Tryz.underlying3 (wrap64_wf _)) ?_; intro w1 hown1 hgrow1)
        | go_in)
      go_roundg (n + 1 - (k + 1))
      case measure => omega
      case rel => exact ⟨k + 1, by omega, rfl, by go_num, _, hown1, Hk.out _, gb_new hg hgrow1 (fun g e => by cases e; exact .inl (Nat.le_refl _))⟩
    · obtain rfl : n = k := by omega
      have hB1 := hB.grown hg (by simp)
      have hD := hown.kept (gb_drew (gb_refl wr none)) (by simp)
      have hlen := fun ty => hD.len Tryz.underlying195 ty
      have hlen0 := fun ty => hown.len Tryz.underlying195 ty
      have c1 := hB1.cell 0
      have hle := hks.le
      have Hr : Hid ((Maps.size D == n) = b) := by
        show _ = _
        rw [← Hb.out, Bool.eq_iff_iff, beq_iff_eq, decide_eq_true_eq]
        have := hks.nd
        rw [List.take_of_length_le (Nat.le_of_eq Hn.out.symm), ← Hn.out] at this
        exact this
      generalize Maps.size D = m at hlen hlen0 Hr hle
      have hfin := Lib.hid hg
      clear hks hg
      by_cases hmn : m = n
      · subst hmn
        have Hr2 : Hid (b = true) := by have := Hr.out; rw [beq_self_eq_true] at this; exact this.symm
        clear Hr Hb
        go_wp2_with fail
        go_region
        all_goals go_wp2_with fail
        all_goals go_ret
        all_goals exact ⟨by rw [Hr2.out]; rfl, gb_drew hfin.out⟩
      · have Hr2 : Hid (b = false) := by have := Hr.out; rw [beq_eq_false_iff_ne.2 hmn] at this; exact this.symm
        clear Hr Hb
        have hmi : ¬ ((m : Int) = (n : Int)) := by omega
        go_wp2_with fail
        go_region
        all_goals go_wp2_with fail
        all_goals go_ret
        all_goals exact ⟨by rw [Hr2.out]; show Ending.returned (.bool ((m : Int) == (n : Int))) = _; rw [beq_eq_false_iff_ne.2 hmi], gb_drew hfin.out⟩
set_option maxRecDepth 20000 in
theorem implDequeValid_b (v : Value) (l : List Int) (w : World) (h : RI w v l) {b : Bool} (hb : dequeValid l = b) :
    Calls Tryz.prog 122 #[v] w fun e w' => e = .returned (.bool b) ∧ w.grownBy w' none := by
  obtain ⟨A, n, c, rfl, -, hn⟩ := h.form'
  have hle := h.le
  rw [← hn] at hle
  have Hn := Lib.hid hn
  have Hb := Lib.hid hb
  clear hn hb
  have hoff : ¬ (l.length ≤ 10 ∧ ∀ x ∈ l, 0 ≤ x ∧ x ≤ 9) → b = false := fun hno => by
    rw [← Hb.out]
    cases hd : dequeValid l with
    | false => rfl
    | true => exact absurd ⟨(dequeValid_iff.1 hd).1, (dequeValid_iff.1 hd).2.1⟩ hno
  by_cases hbig : 10 < n
  · have Hr : Hid (b = false) := hoff (fun e => by have := Hn.out; omega)
    have hgt : (10 : Int) < (n : Int) := by omega
    clear hoff
    go_enter Tryz.func122, Tryz.ntmps122
    go_wp2_with fail
    go_ret
    exact ⟨by rw [Hr.out]; rfl, gb_refl _ _⟩
  · have hgt : ¬ ((10 : Int) < (n : Int)) := by omega
    have Hoff := Lib.hid hoff
    clear hoff
    go_enter Tryz.func122, Tryz.ntmps122
    go_wp2_with fail
    go_loopg [11] (n + 1) (fun mm i wr => ∃ k : Nat, k ≤ n ∧ mm = n + 1 - k ∧ i = .int .i64 k ∧ Hid (∀ x ∈ l.take k, 0 ≤ x ∧ x ≤ 9) ∧ wr = w)
    case atStart => exact ⟨0, Nat.zero_le _, rfl, rfl, by show ∀ x ∈ _, _; simp, rfl⟩
    case round =>
      obtain ⟨k, hk, rfl, rfl, Hk, rfl⟩ := hrel
      by_cases hlt : k < n
      · obtain ⟨g, o, y, rfl, hy, c0⟩ := h.at_ hlt
        have Hy := Lib.hid hy
        clear hy
        by_cases hlo : y < 0
        · have Hr : Hid (b = false) := Hoff.out (fun e => by have := e.2 y (List.mem_of_getElem? Hy.out); omega)
          go_wp2_with fail
          go_ret
          exact ⟨by rw [Hr.out]; rfl, gb_refl _ _⟩
        · by_cases hhi : 10 ≤ y
          · have Hr : Hid (b = false) := Hoff.out (fun e => by have := e.2 y (List.mem_of_getElem? Hy.out); omega)
            go_wp2_with fail
            go_ret
            exact ⟨by rw [Hr.out]; rfl, gb_refl _ _⟩
          · have Hs : Hid (∀ x ∈ l.take (k + 1), 0 ≤ x ∧ x ≤ 9) := by
              show ∀ x ∈ _, _
              obtain ⟨h1, h2⟩ := List.getElem?_eq_some_iff.1 Hy.out
              rw [List.take_succ_eq_append_getElem h1, h2]
              intro x hx
              rcases List.mem_append.1 hx with hx | hx
              · exact Hk.out x hx
              · obtain rfl : x = y := by simpa using hx
                omega
            go_wp2_with fail
            go_roundg (n + 1 - (k + 1))
            case measure => omega
            case rel => exact ⟨k + 1, by omega, rfl, by go_num, Hs, rfl⟩
      · obtain rfl : n = k := by omega
        have Hx : Hid (∀ x ∈ l, 0 ≤ x ∧ x ≤ 9) := by
          have := Hk.out
          rw [List.take_of_length_le (Nat.le_of_eq Hn.out.symm)] at this
          exact this
        have Hd : Hid (decide l.Nodup = b) := by
          show _ = _
          rw [← Hb.out, Bool.eq_iff_iff, decide_eq_true_eq, dequeValid_iff]
          exact ⟨fun e => ⟨by have := Hn.out; omega, Hx.out, e⟩, fun e => e.2.2⟩
        have hl10 : l.length ≤ 10 := by have := Hn.out; omega
        clear Hk hgt
        go_wp2_with fail
        refine (dequeOf_any _ l wr h (by omega)).mono ?_
        rintro e w1 ⟨u, rfl, ho, hg1⟩
        obtain ⟨A', n', c', rfl⟩ := ho.ri.val
        have hB := Blk.new w1 149 #[.slice A' n' c']
        have hg2 := World.grownBy_alloc w1 (.cells #[.slice A' n' c'] 149) none
        have r2 := ho.ri.new hg2
        have g2 := gb_trans hg1 hg2
        clear ho hg1 hg2
        go_upto_region 10 with fail
        generalize w1.alloc (.cells #[.slice A' n' c'] 149) = w2 at hB r2 g2 ⊢
        generalize w1.heap.size = tb at hB ⊢
        go_wp2_with fail
        refine (different_b tb _ l w2 hB r2 hl10 Hx.out Hd.out).mono ?_
        rintro e w3 ⟨rfl, hg3⟩
        go_wp2_with fail
        go_ret
        exact ⟨rfl, gb_trans g2 hg3⟩
/-- What taking a node from a deque gives. -/
def TookOut (w : World) (r : Option (List Int × Int)) (e : Ending) (w' : World) : Prop := match r with
  | some (l, x) => ∃ u, e = .returned (.tuple #[u, .int .i64 x, .bool true]) ∧ QI w' w.heap.size u l ∧ w.grownBy w' none
  | none => e = .returned (.tuple #[.slice none 0 0, .int .i64 0, .bool false]) ∧ w.grownBy w' none
set_option maxRecDepth 20000 in
theorem implDequePop_any (v : Value) (d : List Int) (w : World) (h : RI w v d) : Calls Tryz.prog 92 #[v] w (TookOut w (dequePop d)) := by
  obtain ⟨A, n, c, rfl, -, hn⟩ := h.form'
  have Hn := Lib.hid hn
  clear hn
  by_cases hv : dequeValid d = true
  · have Hv := Lib.hid hv
    by_cases h0 : n = 0
    · have Hr : Hid (dequePop d = none) := by
        show _ = _
        rw [List.eq_nil_of_length_eq_zero (by have := Hn.out; omega : d.length = 0)]
        exact dequePop_nil
      subst h0
      clear hv
      go_enter Tryz.func92, Tryz.ntmps92
      go_wp2_with fail
      refine (implDequeValid_b _ d w h Hv.out).mono ?_
      rintro e w1 ⟨rfl, hg1⟩
      go_wp2_with fail
      refine bodyPost_ret (v := .tuple #[.slice none 0 0, .int .i64 0, .bool false]) (by simp [results, Tryz.results92, go_sem]) rfl ?_
      rw [Hr.out]
      exact ⟨rfl, hg1⟩
    · obtain ⟨m, rfl⟩ : ∃ m, n = m + 1 := ⟨n - 1, by omega⟩
      have hd10 : d.length ≤ 10 := (dequeValid_iff.1 hv).1
      have hne : ¬ (((m + 1 : Nat) : Int) = 0) := by omega
      have hm10 : m ≤ 10 := by have := Hn.out; omega
      obtain ⟨x, hx⟩ : ∃ x, d[m]? = some x := ⟨_, List.getElem?_eq_getElem (by have := Hn.out; omega)⟩
      have Hr : Hid (dequePop d = some (d.take m, x)) := by
        show _ = _
        rw [dequePop_some hv (by have := Hn.out; omega), ← Hn.out, List.getD_eq_getElem?_getD, show m + 1 - 1 = m by omega, hx]
        rfl
      have Hx := Lib.hid hx
      clear hv h0 hx
      go_enter Tryz.func92, Tryz.ntmps92
      go_wp2_with fail
      refine (implDequeValid_b _ d w h Hv.out).mono ?_
      rintro e w1 ⟨rfl, hg1⟩
      go_wp2_with fail
      refine (dequeOf_any _ d w1 (h.new hg1) (by omega)).mono ?_
      rintro e w2 ⟨u, rfl, ho, hg2⟩
      have g2 := gb_trans hg1 hg2
      have hs1 := hg1.size
      have hob := ho.lower hs1
      obtain ⟨g, cap, cur, rfl, -, -, -, -⟩ := hob.form (by have := Hn.out; omega)
      have hl : d.length = m + 1 := Hn.out.symm
      rw [hl] at hob ⊢
      have hB := Blk.new w2 149 #[.slice (some ⟨g, 0, none⟩) (m + 1) cap]
      have hg3 := World.grownBy_alloc w2 (.cells #[.slice (some ⟨g, 0, none⟩) (m + 1) cap] 149) none
      have ho3 := hob.new hg3
      have g3 := gb_trans g2 hg3
      have hs3 := g2.size
      clear hg1 hg2 ho hob hg3 g2 hl
      go_upto_region 4 with fail
      generalize w2.alloc (.cells #[.slice (some ⟨g, 0, none⟩) (m + 1) cap] 149) = w3 at hB ho3 g3 ⊢
      generalize w2.heap.size = tb at hB hs3 ⊢
      go_wp2_with fail
      refine (pop_any tb g 0 m cap x d w3 hB ho3.ri hm10 Hx.out).mono ?_
      rintro e w4 ⟨rfl, rfl⟩
      have hst : w3.grownBy (w3.setCell ⟨tb, 0, none⟩ (.slice (some ⟨g, 0, none⟩) m cap)) (some tb) := gb_set (gb_refl _ _) (.inr rfl) _
      have hne2 : NotE w3 3 (some tb) := NotE.blk hB (by decide)
      have hd2 : d = d.take m ++ [x] := by
        obtain ⟨h1, h2⟩ := List.getElem?_eq_some_iff.1 Hx.out
        have := List.take_succ_eq_append_getElem h1
        rw [h2, List.take_of_length_le (by have := Hn.out; omega)] at this
        exact this
      have q4 : QI w3 w.heap.size (.slice (some ⟨g, 0, none⟩) m cap) (d.take m) := by
        have q3 := ho3.qi
        unfold QI at q3 ⊢
        rw [hd2, List.map_append] at q3
        obtain ⟨-, -, q5⟩ := QS.init q3
        rw [List.length_map, List.length_take, Nat.min_eq_left (by have := Hn.out; omega)] at q5
        exact q5
      have Q4 := q4.grown hst hne2
      have B4 := hB.set_ 0 (.slice (some ⟨g, 0, none⟩) m cap)
      have c4 := B4.cell 0
      have g4 := gb_new g3 hst (fun g e => by cases e; exact .inl hs3)
      clear hd2 q4 ho3 hst hne2 hB
      generalize w3.setCell ⟨tb, 0, none⟩ (.slice (some ⟨g, 0, none⟩) m cap) = w4 at Q4 B4 c4 g4 ⊢
      go_wp2_with fail
      refine bodyPost_ret (v := .tuple #[.slice (some ⟨g, 0, none⟩) m cap, .int .i64 x, .bool true]) (by simp [results, Tryz.results92, go_sem]) rfl ?_
      rw [Hr.out]
      exact ⟨_, rfl, Q4, g4⟩
  · have hv' : dequeValid d = false := by simpa using hv
    have Hv := Lib.hid hv'
    have Hr : Hid (dequePop d = none) := dequePop_bad hv'
    clear hv hv'
    go_enter Tryz.func92, Tryz.ntmps92
    go_wp2_with fail
    refine (implDequeValid_b _ d w h Hv.out).mono ?_
    rintro e w1 ⟨rfl, hg1⟩
    go_wp2_with fail
    refine bodyPost_ret (v := .tuple #[.slice none 0 0, .int .i64 0, .bool false]) (by simp [results, Tryz.results92, go_sem]) rfl ?_
    rw [Hr.out]
    exact ⟨rfl, hg1⟩
theorem dequeSteal_cons {d : List Int} {x : Int} (h : dequeValid d = true) (hx : d[0]? = some x) : dequeSteal d = some (d.drop 1, x) := by
  unfold dequeSteal
  rw [h, if_pos rfl, List.head?_eq_getElem?, hx]
  rfl
set_option maxRecDepth 20000 in
theorem implDequeSteal_any (v : Value) (d : List Int) (w : World) (h : RI w v d) : Calls Tryz.prog 115 #[v] w (TookOut w (dequeSteal d)) := by
  obtain ⟨A, n, c, rfl, -, hn⟩ := h.form'
  have Hn := Lib.hid hn
  clear hn
  by_cases hv : dequeValid d = true
  · have Hv := Lib.hid hv
    by_cases h0 : n = 0
    · have Hr : Hid (dequeSteal d = none) := by
        show _ = _
        rw [List.eq_nil_of_length_eq_zero (by have := Hn.out; omega : d.length = 0)]
        unfold dequeSteal
        simp
      subst h0
      clear hv
      go_enter Tryz.func115, Tryz.ntmps115
      go_wp2_with fail
      refine (implDequeValid_b _ d w h Hv.out).mono ?_
      rintro e w1 ⟨rfl, hg1⟩
      go_wp2_with fail
      refine bodyPost_ret (v := .tuple #[.slice none 0 0, .int .i64 0, .bool false]) (by simp [results, Tryz.results115, go_sem]) rfl ?_
      rw [Hr.out]
      exact ⟨rfl, hg1⟩
    · obtain ⟨m, rfl⟩ : ∃ m, n = m + 1 := ⟨n - 1, by omega⟩
      have hd10 : d.length ≤ 10 := (dequeValid_iff.1 hv).1
      have hne : ¬ (((m + 1 : Nat) : Int) = 0) := by omega
      have hm10 : m ≤ 10 := by have := Hn.out; omega
      obtain ⟨x, hx⟩ : ∃ x, d[0]? = some x := ⟨_, List.getElem?_eq_getElem (by have := Hn.out; omega)⟩
      have Hr : Hid (dequeSteal d = some (d.drop 1, x)) := dequeSteal_cons hv hx
      have Hx := Lib.hid hx
      clear hv h0 hx
      go_enter Tryz.func115, Tryz.ntmps115
      go_wp2_with fail
      refine (implDequeValid_b _ d w h Hv.out).mono ?_
      rintro e w1 ⟨rfl, hg1⟩
      go_wp2_with fail
      refine (dequeOf_any _ d w1 (h.new hg1) (by omega)).mono ?_
      rintro e w2 ⟨u, rfl, ho, hg2⟩
      have g2 := gb_trans hg1 hg2
      have hs1 := hg1.size
      have hob := ho.lower hs1
      obtain ⟨g, cap, cur, rfl, -, -, -, -⟩ := hob.form (by have := Hn.out; omega)
      have hl : d.length = m + 1 := Hn.out.symm
      rw [hl] at hob ⊢
      have hB := Blk.new w2 149 #[.slice (some ⟨g, 0, none⟩) (m + 1) cap]
      have hg3 := World.grownBy_alloc w2 (.cells #[.slice (some ⟨g, 0, none⟩) (m + 1) cap] 149) none
      have ho3 := hob.new hg3
      have g3 := gb_trans g2 hg3
      have hs3 := g2.size
      clear hg1 hg2 ho hob hg3 g2 hl
      go_upto_region 4 with fail
      generalize w2.alloc (.cells #[.slice (some ⟨g, 0, none⟩) (m + 1) cap] 149) = w3 at hB ho3 g3 ⊢
      generalize w2.heap.size = tb at hB hs3 ⊢
      obtain ⟨A2, hA2⟩ : ∃ A2 : Option Addr, A2 = (if cap = 1 then some ⟨g, 0, none⟩ else some ⟨g, 0 + 1, none⟩) := ⟨_, rfl⟩
      have hd2 : d = x :: d.drop 1 := by
        obtain ⟨h1, h2⟩ := List.getElem?_eq_some_iff.1 Hx.out
        rw [← h2, List.getElem_cons_drop]
        rfl
      have q4 : QI w3 w.heap.size (.slice A2 m (cap - 1)) (d.drop 1) := by
        have q3 := ho3.qi
        unfold QI at q3 ⊢
        rw [hd2, List.map_cons] at q3
        obtain ⟨g', o', e1, e2, e3, e4, e5⟩ := QS.tail q3
        injection e1 with e1
        injection e1 with e1 e6
        subst e1 e6
        rw [show m + 1 - 1 = m by omega] at e4 e5
        rw [hA2]
        split
        · exact e5 (by assumption)
        · exact e4
      have HA2 := Lib.hid hA2
      clear hA2 hd2
      go_wp2_with fail
      refine (steal_any tb g 0 m cap x d w3 hB ho3.ri hm10 Hx.out).mono ?_
      rw [← HA2.out]
      rintro e w4 ⟨rfl, rfl⟩
      have hst : w3.grownBy (w3.setCell ⟨tb, 0, none⟩ (.slice A2 m (cap - 1))) (some tb) := gb_set (gb_refl _ _) (.inr rfl) _
      have hne2 : NotE w3 3 (some tb) := NotE.blk hB (by decide)
      have Q4 := q4.grown hst hne2
      have B4 := hB.set_ 0 (.slice A2 m (cap - 1))
      have c4 := B4.cell 0
      have g4 := gb_new g3 hst (fun g e => by cases e; exact .inl hs3)
      clear q4 ho3 hst hne2 hB HA2
      generalize w3.setCell ⟨tb, 0, none⟩ (.slice A2 m (cap - 1)) = w4 at Q4 B4 c4 g4 ⊢
      go_wp2_with fail
      refine bodyPost_ret (v := .tuple #[.slice A2 m (cap - 1), .int .i64 x, .bool true]) (by simp [results, Tryz.results115, go_sem]) rfl ?_
      rw [Hr.out]
      exact ⟨_, rfl, Q4, g4⟩
  · have hv' : dequeValid d = false := by simpa using hv
    have Hv := Lib.hid hv'
    have Hr : Hid (dequeSteal d = none) := by
      show _ = _
      unfold dequeSteal
      rw [hv']
      rfl
    clear hv hv'
    go_enter Tryz.func115, Tryz.ntmps115
    go_wp2_with fail
    refine (implDequeValid_b _ d w h Hv.out).mono ?_
    rintro e w1 ⟨rfl, hg1⟩
    go_wp2_with fail
    refine bodyPost_ret (v := .tuple #[.slice none 0 0, .int .i64 0, .bool false]) (by simp [results, Tryz.results115, go_sem]) rfl ?_
    rw [Hr.out]
    exact ⟨rfl, hg1⟩
end Go.Proofs.YtihobnheficpjaaGreatDoor
