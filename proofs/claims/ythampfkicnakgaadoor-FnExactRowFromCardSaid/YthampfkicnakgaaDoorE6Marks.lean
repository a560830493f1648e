/- Walks: the laws' marks: markIntS, heldIntS, markNodeS. -/
import Derived.Test.YthampfkicnakgaaDoorE4Copy
namespace Go.Proofs.YthampfkicnakgaaDoor
open Go.RowKit

/-- Of what was there only the blocks from lo to hi may have turned. -/
structure Zn (lo hi : Nat) (w w' : World) : Prop where
  os : w'.os = w.os
  tape : w'.tape = w.tape
  output : w'.output = w.output
  size : w.heap.size ≤ w'.heap.size
  block : ∀ i, i < w.heap.size → (i < lo ∨ hi ≤ i) → w'.heap[i]? = w.heap[i]?
theorem Zn.refl (lo hi : Nat) (w : World) : Zn lo hi w w := ⟨rfl, rfl, rfl, Nat.le_refl _, fun _ _ _ => rfl⟩
theorem Zn.trans {lo hi : Nat} {a b c : World} (h : Zn lo hi a b) (k : Zn lo hi b c) : Zn lo hi a c :=
  ⟨k.os.trans h.os, k.tape.trans h.tape, k.output.trans h.output, Nat.le_trans h.size k.size, fun i hi hr => (k.block i (Nat.lt_of_lt_of_le hi h.size) hr).trans (h.block i hi hr)⟩
theorem Zn.of_gb {lo hi : Nat} {a b : World} {row : Option Nat} (h : a.grownBy b row) (hr : ∀ g, row = some g → lo ≤ g ∧ g < hi) : Zn lo hi a b :=
  ⟨h.os, h.tape, h.output, h.size, fun i hi h' => h.block i hi (fun e => by have := hr i e.symm; omega)⟩
/-- What was there before the zone began stands. -/
theorem Zn.gb {lo hi : Nat} {a b c : World} (h : a.grownBy b none) (k : Zn lo hi b c) (hl : a.heap.size ≤ lo) : a.grownBy c none :=
  ⟨k.os.trans h.os, k.tape.trans h.tape, k.output.trans h.output, Nat.le_trans h.size k.size, fun i hi _ => (k.block i (Nat.lt_of_lt_of_le hi h.size) (.inl (by omega))).trans (h.block i hi (by simp))⟩
theorem Zn.wider {lo hi lo' hi' : Nat} {a b : World} (h : Zn lo hi a b) (h1 : lo' ≤ lo) (h2 : hi ≤ hi') : Zn lo' hi' a b :=
  ⟨h.os, h.tape, h.output, h.size, fun i hi hr => h.block i hi (by omega)⟩
theorem Blk.zone {lo hi : Nat} {w w' : World} {g : Nat} {t : TypeId} {cs : Array Value} (h : Blk w g t cs) (k : Zn lo hi w w') (hg : g < lo ∨ hi ≤ g) : Blk w' g t cs := (k.block g h.lt hg).trans h
/-- What lies from the zone's end on stands. -/
theorem own_zone {lo hi base size n : Nat} {w w' : World} {E : TypeId} {v : Value} {xs : List Value} (h : w.ownsRow base E size v n xs) (k : Zn lo hi w w') (hb : hi ≤ base) : w'.ownsRow base E size v n xs := by
  refine ⟨h.1, ?_⟩
  rcases h.2 with h0 | ⟨g, cap, cur, h1, h2, h3, h4⟩
  · exact .inl h0
  · exact .inr ⟨g, cap, cur, h1, h2, Blk.zone (t := E) (cs := cur) h3 k (.inr (by omega)), h4⟩
theorem OwnI.zone {lo hi base : Nat} {w w' : World} {v : Value} {l : List Int} (h : OwnI w base v l) (k : Zn lo hi w w') (hb : hi ≤ base) : OwnI w' base v l := own_zone h k hb

/-- A slice of integers of the call's own, in a block from lo to hi; what it holds is left open. -/
def WI (w : World) (lo hi : Nat) (f : Value) (n : Nat) : Prop :=
  n ≤ 1048576 ∧ ∃ A c, f = .slice A n c ∧ n ≤ c ∧ (n = 0 ∨ ∃ g cur, A = some ⟨g, 0, none⟩ ∧ lo ≤ g ∧ g < hi ∧ Blk w g 3 cur ∧ n ≤ cur.size)
theorem WI.form {w : World} {lo hi n : Nat} {f : Value} (h : WI w lo hi f n) : ∃ A c, f = .slice A n c ∧ n ≤ c ∧ n ≤ 1048576 := by
  obtain ⟨h1, A, c, h2, h3, _⟩ := h
  exact ⟨A, c, h2, h3, h1⟩
theorem WI.at_ {w : World} {lo hi n c : Nat} {A : Option Addr} (h : WI w lo hi (.slice A n c) n) (h0 : 0 < n) : ∃ g cur, A = some ⟨g, 0, none⟩ ∧ lo ≤ g ∧ g < hi ∧ Blk w g 3 cur ∧ n ≤ cur.size := by
  obtain ⟨h1, A', c', h2, h3, h4⟩ := h
  injection h2 with e1 _ e2
  subst e1 e2
  rcases h4 with h4 | h4
  · omega
  · exact h4
theorem OwnI.wi {w : World} {base lo hi : Nat} {v : Value} {l : List Int} (h : OwnI w base v l) (h1 : lo ≤ base) (h2 : w.heap.size ≤ hi) (hl : l.length ≤ 1048576) : WI w lo hi v l.length := by
  refine ⟨hl, ?_⟩
  have hlt := h.lt
  rcases h.2 with ⟨rfl, h0⟩ | ⟨g, cap, cur, rfl, hb, hg, hn, _, hcs, _⟩
  · rw [h0]
    exact ⟨none, 0, rfl, Nat.le_refl _, .inl rfl⟩
  · have := hlt g rfl
    exact ⟨_, cap, rfl, hn, .inr ⟨g, cur, rfl, by omega, by omega, hg, by omega⟩⟩
/-- Only integers in the zone have turned. -/
structure MI (lo hi : Nat) (w w' : World) : Prop where
  z : Zn lo hi w w'
  ints : ∀ g cs, Blk w g 3 cs → ∃ cs' : Array Value, Blk w' g 3 cs' ∧ cs'.size = cs.size
  other : ∀ g t cs, t ≠ 3 → Blk w g t cs → Blk w' g t cs
theorem MI.refl (lo hi : Nat) (w : World) : MI lo hi w w := ⟨Zn.refl _ _ _, fun _ cs h => ⟨cs, h, rfl⟩, fun _ _ _ _ h => h⟩
theorem MI.trans {lo hi : Nat} {a b c : World} (h : MI lo hi a b) (k : MI lo hi b c) : MI lo hi a c :=
  ⟨h.z.trans k.z, fun g cs hb => by
    obtain ⟨cs', h1, h2⟩ := h.ints g cs hb
    obtain ⟨cs2, h3, h4⟩ := k.ints g cs' h1
    exact ⟨cs2, h3, by omega⟩, fun g t cs ht hb => k.other g t cs ht (h.other g t cs ht hb)⟩
theorem MI.set_ {lo hi g : Nat} {w : World} {cur : Array Value} (hb : Blk w g 3 cur) (h1 : lo ≤ g) (h2 : g < hi) (j : Nat) (u : Value) : MI lo hi w (w.setCell ⟨g, j, none⟩ u) := by
  refine ⟨Zn.of_gb (gb_set (p := ⟨g, j, none⟩) (gb_refl w (some g)) (.inr rfl) u) (fun g' e => by cases e; exact ⟨h1, h2⟩), fun g' cs hb' => ?_, fun g' t cs ht hb' => hb'.far (hb'.ne_ hb ht) u⟩
  by_cases e : g' = g
  · subst e
    exact ⟨_, hb'.set_ j u, by simp⟩
  · exact ⟨cs, hb'.far (p := ⟨g, j, none⟩) e u, rfl⟩
theorem MI.of_new {lo hi : Nat} {a b : World} (h : a.grownBy b none) : MI lo hi a b :=
  ⟨Zn.of_gb h (fun _ e => by cases e), fun _ cs hb => ⟨cs, hb.grown h (by simp), rfl⟩, fun _ _ _ _ hb => hb.grown h (by simp)⟩
theorem MI.drew {lo hi : Nat} {a b : World} (h : MI lo hi a b) : MI lo hi a b.drew := ⟨⟨h.z.os, h.z.tape, h.z.output, h.z.size, h.z.block⟩, h.ints, h.other⟩
theorem WI.mi {lo hi lo' hi' n : Nat} {w w' : World} {f : Value} (h : WI w lo hi f n) (k : MI lo' hi' w w') : WI w' lo hi f n := by
  obtain ⟨h1, A, c, h2, h3, h4⟩ := h
  refine ⟨h1, A, c, h2, h3, ?_⟩
  rcases h4 with h4 | ⟨g, cur, h5, h6, h7, h8, h9⟩
  · exact .inl h4
  · obtain ⟨cs', k1, k2⟩ := k.ints g cur h8
    exact .inr ⟨g, cs', h5, h6, h7, k1, by omega⟩

/-- What markIntS leaves: k, k+1, .. at the slice's places. -/
def MarkPost (lo hi : Nat) (w : World) (v : Value) (n k : Nat) (e : Ending) (w' : World) : Prop :=
  e = .returned (.int .i64 (k + n : Nat)) ∧ MI lo hi w w' ∧ w.grownBy w' v.ownBlock ∧ (∀ base l, OwnI w base v l → OwnI w' base v ((List.range n).map (fun j : Nat => ((k + j : Nat) : Int))))
theorem owned_of_cells {w : World} {base n : Nat} {v : Value} {l l' : List Int} (h : OwnI w base v l) (hn : n = l.length) (hl : l'.length = n) {w' : World}
    (hc : ∀ g, v.ownBlock = some g → ∀ cur, Blk w g 3 cur → ∃ cs' : Array Value, Blk w' g 3 cs' ∧ cs'.size = cur.size ∧ ∀ (j : Nat) (x : Int), l'[j]? = some x → cs'[j]? = some (Value.int .i64 x)) : OwnI w' base v l' := by
  subst hn
  unfold OwnI
  rw [hl]
  refine ⟨by simp [hl], ?_⟩
  rcases h.2 with ⟨rfl, h0⟩ | ⟨g, cap, cur, rfl, hb, hg, hn, hm, hcs, ht⟩
  · exact .inl ⟨rfl, h0⟩
  · obtain ⟨cs', k1, k2, k3⟩ := hc g rfl cur hg
    refine .inr ⟨g, cap, cs', rfl, hb, k1, hn, hm, by omega, ?_⟩
    apply List.ext_getElem?
    intro j
    rw [List.getElem?_take]
    by_cases hj : j < l.length
    · obtain ⟨x, hx⟩ : ∃ x, l'[j]? = some x := ⟨_, List.getElem?_eq_getElem (by omega)⟩
      rw [if_pos (by omega), List.getElem?_map, hx]
      simpa using k3 j x hx
    · rw [if_neg (by omega), List.getElem?_eq_none (by simp; omega)]

set_option maxHeartbeats 400000 in
theorem markIntS_any (lo hi : Nat) (v : Value) (n k : Nat) (w : World) (h : WI w lo hi v n) (hk : k ≤ 8000000000000000000) (kz : Int) (hkz : kz = (k : Nat) := by omega) :
    Calls Tryd.prog 24 #[v, .int .i64 kz] w (MarkPost lo hi w v n k) := by
  subst hkz
  obtain ⟨A, c, rfl, hnc, hn⟩ := h.form
  go_enter Tryd.func24, Tryd.ntmps24
  go_wp2_with fail
  go_loopw [1, 5] (fun s i wr => ∃ j : Nat, j ≤ n ∧ i = .int .i64 j ∧ s = .int .i64 (k + j : Nat) ∧ MI lo hi w wr ∧ w.grownBy wr (Value.slice A n c).ownBlock ∧ Hid (∀ g, A = some ⟨g, 0, none⟩ → ∀ cur, Blk wr g 3 cur → ∀ j', j' < j → cur[j']? = some (.int .i64 (k + j' : Nat)))) (fun _ i _ => n - (intOf i).toNat)
  case atStart => exact ⟨0, Nat.zero_le _, rfl, rfl, MI.refl _ _ _, gb_refl _ _, fun g _ cur _ j' hj => by omega⟩
  case round =>
    obtain ⟨j, hj, rfl, rfl, hM, hG, Hc⟩ := hrel
    by_cases hlt : j < n
    · obtain ⟨g, cur, rfl, h1, h2, hb, h3⟩ := (h.mi hM).at_ (by omega)
      have f0 := hb.frozen j
      obtain ⟨u, hu⟩ : ∃ u, cur[j]? = some u := ⟨_, Array.getElem?_eq_getElem (by omega)⟩
      have c0 : wr.cell? ⟨g, j, none⟩ = some u := (hb.cell j).trans hu
      have hM2 := hM.trans (MI.set_ hb h1 h2 j (.int .i64 (k + j : Nat)))
      have hG2 : w.grownBy (wr.setCell ⟨g, j, none⟩ (.int .i64 (k + j : Nat))) (Value.slice (some ⟨g, 0, none⟩) n c).ownBlock := gb_set (p := ⟨g, j, none⟩) hG (.inr rfl) _
      have Hc2 : Hid (∀ g', (some ⟨g, 0, none⟩ : Option Addr) = some ⟨g', 0, none⟩ → ∀ cur, Blk (wr.setCell ⟨g, j, none⟩ (.int .i64 (k + j : Nat))) g' 3 cur → ∀ j', j' < j + 1 → cur[j']? = some (.int .i64 (k + j' : Nat))) := by
        intro g' e cur' hb' j' hj'
        obtain rfl : g = g' := by injection e with e; injection e
        have hs := hb.set_ j (.int .i64 (k + j : Nat))
        obtain rfl : cur' = cur.setIfInBounds j (.int .i64 (k + j : Nat)) := by
          unfold Blk at hb' hs
          rw [hs] at hb'
          injection hb' with hb'
          injection hb' with e1
          exact e1.symm
        by_cases hjj : j' = j
        · subst hjj
          rw [Array.getElem?_setIfInBounds_self_of_lt (by omega)]
        · rw [Array.getElem?_setIfInBounds_ne (by omega)]
          exact Hc.out g rfl cur hb j' (by omega)
      clear hb hM hG Hc hu
      go_wp2_with fail
      go_roundw
      case rel => exact ⟨j + 1, by omega, by go_num, by go_num, hM2, hG2, Hc2⟩
      case measure => simp [intOf]; omega
    · obtain rfl : j = n := by omega
      go_wp2_with fail
      go_ret
      refine ⟨rfl, hM, hG, fun base l ho => ?_⟩
      obtain ⟨A', n', c', e, hl, _⟩ : ∃ A n c, (Value.slice A j c) = Value.slice A n c ∧ n = l.length ∧ n ≤ c := by
        obtain ⟨A', n', c', e, e2, e3⟩ := ho.ri.form'
        injection e with e4 e5 e6
        subst e4 e5 e6
        exact ⟨A, j, c, rfl, e3, e2⟩
      injection e with _ e2 _
      refine owned_of_cells ho (n := j) (by omega) (by simp) ?_
      intro g hg cur hb
      obtain ⟨cs', k1, k2⟩ := hM.ints g cur hb
      refine ⟨cs', k1, k2, fun i x hi => ?_⟩
      have hij : i < j := by have := (List.getElem?_eq_some_iff.1 hi).1; simpa using this
      have hA : A = some ⟨g, 0, none⟩ := by
        rcases ho.2 with ⟨e0, _⟩ | ⟨g', cap, cur', e0, _⟩
        · rw [e0] at hg
          cases hg
        · injection e0 with e0 _ _
          rw [e0] at hg ⊢
          cases hg
          rfl
      rw [Hc.out g hA cs' k1 i hij]
      rw [List.getElem?_map, List.getElem?_range hij] at hi
      injection hi with hi
      rw [← hi]
theorem heldIntS_any (v : Value) (n k : Nat) (w : World) (h : RI w v ((List.range n).map (fun j : Nat => ((k + j : Nat) : Int)))) (hk : k ≤ 8000000000000000000) (hn : n ≤ 1048576) (kz : Int) (hkz : kz = (k : Nat) := by omega) :
    Calls Tryd.prog 25 #[v, .int .i64 kz] w fun e w' => e = .returned (.int .i64 (k + n : Nat)) ∧ w = w' := by
  subst hkz
  obtain ⟨A, n', c, rfl, h2, h3⟩ := h.form'
  obtain rfl : n' = n := by simpa using h3
  clear h3
  go_enter Tryd.func25, Tryd.ntmps25
  go_wp2_with fail
  go_loop [1, 5] (fun s i => ∃ j : Nat, j ≤ n' ∧ i = .int .i64 j ∧ s = .int .i64 (k + j : Nat)) (fun _ i => n' - (intOf i).toNat)
  case atStart => exact ⟨0, Nat.zero_le _, rfl, rfl⟩
  case round =>
    obtain ⟨j, hj, rfl, rfl⟩ := hrel
    by_cases hlt : j < n'
    · obtain ⟨g, o, x, rfl, hx, c0⟩ := h.at_ hlt
      rw [List.getElem?_map, List.getElem?_range hlt] at hx
      obtain rfl : ((k + j : Nat) : Int) = x := by injection hx
      clear hx
      go_wp2_with fail
      go_round
      case rel => exact ⟨j + 1, by omega, by go_num, by go_num⟩
      case measure => simp [intOf]; omega
    · obtain rfl : j = n' := by omega
      go_wp2_with fail
      go_ret
      exact ⟨rfl, rfl⟩
end Go.Proofs.YthampfkicnakgaaDoor
