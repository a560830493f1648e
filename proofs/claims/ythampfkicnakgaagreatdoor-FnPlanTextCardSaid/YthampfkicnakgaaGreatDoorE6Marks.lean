/- Walks: the laws' marks: markIntS, heldIntS, markNodeS. -/
import Derived.Test.YthampfkicnakgaaGreatDoorE4Copy
namespace Go.Proofs.YthampfkicnakgaaGreatDoor
open Go.RowKit

/-- Of what was there only the blocks from lo to hi may have turned. -/
structure Zn (lo hi : Nat) (w w' : World) : Prop where
  os : w'.os = w.os
  tape : w'.tape = w.tape
  output : w'.output = w.output
  size : w.heap.size ≤ w'.heap.size
  block : ∀ i, i < w.heap.size → (i < lo ∨ hi ≤ i) → w'.heap[i]? = w.heap[i]?
theorem Zn.refl (lo hi : Nat) (w : World) : Zn lo hi w w := ⟨rfl, rfl, rfl, Nat.le_refl _, fun _ _ _ => rfl⟩
theorem Zn.trans {lo hi : Nat} {a b c : World} (h : Zn lo hi a b) (k : Zn lo hi b c) : Zn lo hi a c :=
  ⟨k.os.trans h.os, k.tape.trans h.tape, k.output.trans h.output, Nat.le_trans h.size k.size, fun i hi hr => (k.block i (Nat.lt_of_lt_of_le hi h.size) hr).trans (h.block i hi hr)⟩
theorem Zn.of_gb {lo hi : Nat} {a b : World} {row : Option Nat} (h : a.grownBy b row) (hr : ∀ g, row = some g → lo ≤ g ∧ g < hi) : Zn lo hi a b :=
  ⟨h.os, h.tape, h.output, h.size, fun i hi h' => h.block i hi (fun e => by have := hr i e.symm; omega)⟩
/-- What was there before the zone began stands. -/
theorem Zn.gb {lo hi : Nat} {a b c : World} (h : a.grownBy b none) (k : Zn lo hi b c) (hl : a.heap.size ≤ lo) : a.grownBy c none :=
  ⟨k.os.trans h.os, k.tape.trans h.tape, k.output.trans h.output, Nat.le_trans h.size k.size, fun i hi _ => (k.block i (Nat.lt_of_lt_of_le hi h.size) (.inl (by omega))).trans (h.block i hi (by simp))⟩
theorem Zn.wider {lo hi lo' hi' : Nat} {a b : World} (h : Zn lo hi a b) (h1 : lo' ≤ lo) (h2 : hi ≤ hi') : Zn lo' hi' a b :=
  ⟨h.os, h.tape, h.output, h.size, fun i hi hr => h.block i hi (by omega)⟩
theorem Blk.zone {lo hi : Nat} {w w' : World} {g : Nat} {t : TypeId} {cs : Array Value} (h : Blk w g t cs) (k : Zn lo hi w w') (hg : g < lo ∨ hi ≤ g) : Blk w' g t cs := (k.block g h.lt hg).trans h
/-- What lies from the zone's end on stands. -/
theorem own_zone {lo hi base size n : Nat} {w w' : World} {E : TypeId} {v : Value} {xs : List Value} (h : w.ownsRow base E size v n xs) (k : Zn lo hi w w') (hb : hi ≤ base) : w'.ownsRow base E size v n xs := by
  refine ⟨h.1, ?_⟩
  rcases h.2 with h0 | ⟨g, cap, cur, h1, h2, h3, h4⟩
  · exact .inl h0
  · exact .inr ⟨g, cap, cur, h1, h2, Blk.zone (t := E) (cs := cur) h3 k (.inr (by omega)), h4⟩
theorem OwnI.zone {lo hi base : Nat} {w w' : World} {v : Value} {l : List Int} (h : OwnI w base v l) (k : Zn lo hi w w') (hb : hi ≤ base) : OwnI w' base v l := own_zone h k hb

/-- A slice of integers of the call's own, in a block from lo to hi; what it holds is left open. -/
def WI (w : World) (lo hi : Nat) (f : Value) (n : Nat) : Prop :=
  n ≤ 1048576 ∧ ∃ A c, f = .slice A n c ∧ n ≤ c ∧ (n = 0 ∨ ∃ g cur, A = some ⟨g, 0, none⟩ ∧ lo ≤ g ∧ g < hi ∧ Blk w g 3 cur ∧ n ≤ cur.size)
theorem WI.form {w : World} {lo hi n : Nat} {f : Value} (h : WI w lo hi f n) : ∃ A c, f = .slice A n c ∧ n ≤ c ∧ n ≤ 1048576 := by
  obtain ⟨h1, A, c, h2, h3, _⟩ := h
  exact ⟨A, c, h2, h3, h1⟩
theorem WI.at_ {w : World} {lo hi n c : Nat} {A : Option Addr} (h : WI w lo hi (.slice A n c) n) (h0 : 0 < n) : ∃ g cur, A = some ⟨g, 0, none⟩ ∧ lo ≤ g ∧ g < hi ∧ Blk w g 3 cur ∧ n ≤ cur.size := by
  obtain ⟨h1, A', c', h2, h3, h4⟩ := h
  injection h2 with e1 _ e2
  subst e1 e2
  rcases h4 with h4 | h4
  · omega
  · exact h4
theorem OwnI.wi {w : World} {base lo hi : Nat} {v : Value} {l : List Int} (h : OwnI w base v l) (h1 : lo ≤ base) (h2 : w.heap.size ≤ hi) (hl : l.length ≤ 1048576) : WI w lo hi v l.length := by
  refine ⟨hl, ?_⟩
  have hlt := h.lt
  rcases h.2 with ⟨rfl, h0⟩ | ⟨g, cap, cur, rfl, hb, hg, hn, _, hcs, _⟩
  · rw [h0]
    exact ⟨none, 0, rfl, Nat.le_refl _, .inl rfl⟩
  · have := hlt g rfl
    exact ⟨_, cap, rfl, hn, .inr ⟨g, cur, rfl, by omega, by omega, hg, by omega⟩⟩
/-- Only integers in the zone have turned. -/
structure MI (lo hi : Nat) (w w' : World) : Prop where
  z : Zn lo hi w w'
  ints : ∀ g cs, Blk w g 3 cs → ∃ cs' : Array Value, Blk w' g 3 cs' ∧ cs'.size = cs.size
  other : ∀ g t cs, t ≠ 3 → Blk w g t cs → Blk w' g t cs
theorem MI.refl (lo hi : Nat) (w : World) : MI lo hi w w := ⟨Zn.refl _ _ _, fun _ cs h => ⟨cs, h, rfl⟩, fun _ _ _ _ h => h⟩
theorem MI.trans {lo hi : Nat} {a b c : World} (h : MI lo hi a b) (k : MI lo hi b c) : MI lo hi a c :=
  ⟨h.z.trans k.z, fun g cs hb => by
    obtain ⟨cs', h1, h2⟩ := h.ints g cs hb
    obtain ⟨cs2, h3, h4⟩ := k.ints g cs' h1
    exact ⟨cs2, h3, by omega⟩, fun g t cs ht hb => k.other g t cs ht (h.other g t cs ht hb)⟩
theorem MI.set_ {lo hi g : Nat} {w : World} {cur : Array Value} (hb : Blk w g 3 cur) (h1 : lo ≤ g) (h2 : g < hi) (j : Nat) (u : Value) : MI lo hi w (w.setCell ⟨g, j, none⟩ u) := by
  refine ⟨Zn.of_gb (gb_set (p := ⟨g, j, none⟩) (gb_refl w (some g)) (.inr rfl) u) (fun g' e => by cases e; exact ⟨h1, h2⟩), fun g' cs hb' => ?_, fun g' t cs ht hb' => hb'.far (hb'.ne_ hb ht) u⟩
  by_cases e : g' = g
  · subst e
    exact ⟨_, hb'.set_ j u, by simp⟩
  · exact ⟨cs, hb'.far (p := ⟨g, j, none⟩) e u, rfl⟩
theorem MI.of_new {lo hi : Nat} {a b : World} (h : a.grownBy b none) : MI lo hi a b :=
  ⟨Zn.of_gb h (fun _ e => by cases e), fun _ cs hb => ⟨cs, hb.grown h (by simp), rfl⟩, fun _ _ _ _ hb => hb.grown h (by simp)⟩
theorem MI.drew {lo hi : Nat} {a b : World} (h : MI lo hi a b) : MI lo hi a b.drew := ⟨⟨h.z.os, h.z.tape, h.z.output, h.z.size, h.z.block⟩, h.ints, h.other⟩
theorem WI.mi {lo hi lo' hi' n : Nat} {w w' : World} {f : Value} (h : WI w lo hi f n) (k : MI lo' hi' w w') : WI w' lo hi f n := by
  obtain ⟨h1, A, c, h2, h3, h4⟩ := h
  refine ⟨h1, A, c, h2, h3, ?_⟩
  rcases h4 with h4 | ⟨g, cur, h5, h6, h7, h8, h9⟩
  · exact .inl h4
  · obtain ⟨cs', k1, k2⟩ := k.ints g cur h8
    exact .inr ⟨g, cs', h5, h6, h7, k1, by omega⟩

/-- What markIntS leaves: k, k+1, .. at the slice's places. -/
def MarkPost (lo hi : Nat) (w : World) (v : Value) (n k : Nat) (e : Ending) (w' : World) : Prop :=
  e = .returned (.int .i64 (k + n : Nat)) ∧ MI lo hi w w' ∧ w.grownBy w' v.ownBlock ∧ (∀ base l, OwnI w base v l → OwnI w' base v ((List.range n).map (fun j : Nat => ((k + j : Nat) : Int))))
theorem owned_of_cells {w : World} {base n : Nat} {v : Value} {l l' : List Int} (h : OwnI w base v l) (hn : n = l.length) (hl : l'.length = n) {w' : World}
    (hc : ∀ g, v.ownBlock = some g → ∀ cur, Blk w g 3 cur → ∃ cs' : Array Value, Blk w' g 3 cs' ∧ cs'.size = cur.size ∧ ∀ (j : Nat) (x : Int), l'[j]? = some x → cs'[j]? = some (Value.int .i64 x)) : OwnI w' base v l' := by
  subst hn
  unfold OwnI
  rw [hl]
  refine ⟨by simp [hl], ?_⟩
  rcases h.2 with ⟨rfl, h0⟩ | ⟨g, cap, cur, rfl, hb, hg, hn, hm, hcs, ht⟩
  · exact .inl ⟨rfl, h0⟩
  · obtain ⟨cs', k1, k2, k3⟩ := hc g rfl cur hg
    refine .inr ⟨g, cap, cs', rfl, hb, k1, hn, hm, by omega, ?_⟩
    apply List.ext_getElem?
    intro j
    rw [List.getElem?_take]
    by_cases hj : j < l.length
    · obtain ⟨x, hx⟩ : ∃ x, l'[j]? = some x := ⟨_, List.getElem?_eq_getElem (by omega)⟩
      rw [if_pos (by omega), List.getElem?_map, hx]
      simpa using k3 j x hx
    · rw [if_neg (by omega), List.getElem?_eq_none (by simp; omega)]

end Go.Proofs.YthampfkicnakgaaGreatDoor
