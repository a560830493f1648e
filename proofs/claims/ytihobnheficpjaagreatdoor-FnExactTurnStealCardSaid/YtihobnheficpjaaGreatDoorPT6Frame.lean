/- What the frames of the exact laws of the turns share: arguments that are rows of rows, crews. -/
import Derived.Test.YtihobnheficpjaaGreatDoorM35
import Derived.Test.YtihobnheficpjaaGreatDoorM2Crew
namespace Go.Proofs.YtihobnheficpjaaGreatDoor
open Go.ChangeShapes Go.WideShapes Go.ChangeAt Go.RowKit Go.Deep Go.WideElems Go.Joins
section
variable {H : Type} {enc : TypeId × Value → H} {W : World} {base : Nat} {spare : Nat → Bool} {held : Bool}
theorem lists_of_cell {n : Nat} {v : Value} {y : DataW H × List MemPlace} (h : DataW.trod enc Tryz.prog W base spare held n 24 [v] = some y) : ∃ ll, ArgL W.heap.size W v ll := by
  have k27 : Tryz.prog.cellsOf 25 = 1 := by kernel_rfl
  rcases open_slice Tryz.underlying24 h with ⟨hcs, _⟩ | ⟨a, len, cap, m, n, D, Pl, hcs, _, hl, hm, hmm, _, hi⟩
  · obtain rfl : v = .slice none 0 0 := by simpa using hcs
    exact ⟨[], none, 0, 0, rfl, Nat.le_refl _, rfl, by omega, fun j x hx => by simp at hx⟩
  · obtain rfl : v = .slice (some a) len cap := by simpa using hcs
    have key0 : ∀ i, i < len → ∃ c0 l, W.cell? (a.add i) = some c0 ∧ ArgI W.heap.size W c0 l := by
      intro i hil
      obtain ⟨cs', hc, ht⟩ := hi i (by rw [hmm]; split <;> omega)
      rw [k27] at hc
      obtain ⟨_, hcl, hat⟩ := World.cells?_some hc
      match cs', hcl with
      | [c0], _ =>
        obtain ⟨l, h1⟩ := ints_of_cell ht
        have a0 := hat 0 (by omega)
        rw [Go.Deep.add_add] at a0
        exact ⟨c0, l, by simpa using a0, h1⟩
    have key : ∀ i, i < len → ∃ l : List Int, ∃ g o u, a = ⟨g, o, none⟩ ∧ g < W.heap.size ∧ W.cell? ⟨g, o + i, none⟩ = some u ∧ ArgI W.heap.size W u l := by
      intro i hil
      obtain ⟨c0, l, a0, h1⟩ := key0 i hil
      obtain ⟨_, _, z0, _⟩ := key0 0 (by omega)
      have hz : ∃ u, W.cell? a = some u := ⟨_, by simpa [Addr.add] using z0⟩
      obtain ⟨g, o, rfl, hgl, b0⟩ := addr_of_cell hz a0
      exact ⟨l, g, o, c0, rfl, hgl, b0, h1⟩
    refine ⟨List.ofFn (fun i : Fin len => Classical.choose (key i.1 i.2)), some a, len, cap, rfl, hl, by simp, by unfold maxLen at hm; omega, fun k l hx => ?_⟩
    have hk : k < len := by have := (List.getElem?_eq_some_iff.1 hx).1; simpa using this
    have he : l = Classical.choose (key k hk) := by
      rw [List.getElem?_ofFn] at hx
      rw [dif_pos hk] at hx
      exact (Option.some.inj hx).symm
    subst he
    obtain ⟨g, o, u, h1, h2, h3, h4⟩ := Classical.choose_spec (key k hk)
    exact ⟨g, o, u, by rw [h1], h2, h3, h4⟩
theorem lists_of_arg {a0 : Option Addr} {len0 cap0 : Nat} {d0 : DataW H} {p0 : List MemPlace}
    (h0 : DataW.Trod enc Tryz.prog W 0 (fun _ => true) true 24 (.slice a0 len0 cap0) d0 p0) : ∃ ll, ArgL W.heap.size W (.slice a0 len0 cap0) ll := by
  obtain ⟨fuel, hf⟩ := h0
  exact lists_of_cell hf
end
set_option maxRecDepth 50000 in
theorem crew_of_arg {H : Type} {enc : TypeId × Value → H} {W : World} {b0 : Nat} {v : Value} {d0 : DataW H} {p0 : List MemPlace}
    (hv : Value.okWide Tryz.prog W .any b0 44 v) (h0 : DataW.Trod enc Tryz.prog W 0 (fun _ => true) true 44 v d0 p0) : ∃ c : Crew, ArgC W.heap.size W v c := by
  obtain ⟨c0, c1, c2, c3, y0, y1, y2, y3, n, rfl, _, _, g0, g1, g2, g3⟩ := open_agg4 Tryz.underlying44 (by kernel_rfl) (by kernel_rfl) hv h0
  obtain ⟨dl, h1⟩ := lists_of_cell g0
  obtain ⟨kl, h2⟩ := ints_of_cell g1
  obtain ⟨ol, h3⟩ := ints_of_cell g2
  obtain ⟨rl, h4⟩ := lists_of_cell g3
  exact ⟨⟨dl, kl, ol, rl⟩, c0, c1, c2, c3, rfl, h1, h2, h3, h4⟩
end Go.Proofs.YtihobnheficpjaaGreatDoor
