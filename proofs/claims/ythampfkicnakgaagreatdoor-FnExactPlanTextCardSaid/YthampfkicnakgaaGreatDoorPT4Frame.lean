/- What the frames of the plan texts' laws share: an argument that is a slice of nodes. -/
import Derived.Test.YthampfkicnakgaaGreatDoorPT2Frame
import Derived.Test.YthampfkicnakgaaGreatDoorE3Nodes
import Derived.Deep.Slices
import Derived.Deep.Fields
namespace Go.Proofs.YthampfkicnakgaaGreatDoor
open Go.ChangeShapes Go.WideShapes Go.ChangeAt Go.RowKit Go.Deep
section
variable {H : Type} {enc : TypeId × Value → H} {W : World} {base : Nat} {spare : Nat → Bool} {held : Bool}
theorem nodes_of_arg {a0 : Option Addr} {len0 cap0 : Nat} {d0 : DataW H} {p0 : List MemPlace}
    (h0 : DataW.Trod enc Tryz.prog W 0 (fun _ => true) true 36 (.slice a0 len0 cap0) d0 p0) : ∃ plan, ArgN W.heap.size W (.slice a0 len0 cap0) plan := by
  obtain ⟨fuel, hf⟩ := h0
  have k3 : Tryz.prog.cellsOf 3 = 1 := by kernel_rfl
  have k27 : Tryz.prog.cellsOf 24 = 1 := by kernel_rfl
  have kN : Tryz.prog.cellsOf 77 = 3 := by kernel_rfl
  rcases open_slice Tryz.underlying36 hf with ⟨hcs, _⟩ | ⟨a, len, cap, m, n, D, Pl, hcs, _, hl, hm, hmm, _, hi⟩
  · simp [Value.cells] at hcs
    obtain ⟨rfl, rfl, rfl⟩ := hcs
    exact ⟨[], none, 0, 0, rfl, Nat.le_refl _, rfl, by omega, fun j x hx => by simp at hx⟩
  · simp [Value.cells] at hcs
    obtain ⟨rfl, rfl, rfl⟩ := hcs
    have key : ∀ i, i < len0 → ∃ nd : Node, ∃ g o f r, a = ⟨g, o, none⟩ ∧ g < W.heap.size ∧ W.cell? ⟨g, o + i * 3, none⟩ = some (.int .i64 nd.kind) ∧ W.cell? ⟨g, o + i * 3 + 1, none⟩ = some f ∧ W.cell? ⟨g, o + i * 3 + 2, none⟩ = some r ∧
        ArgI W.heap.size W f nd.frm ∧ ArgI W.heap.size W r nd.row := by
      intro i hil
      have hcell0 : ∀ i, i < len0 → ∃ c0 c1 c2, ∃ k : Int, ∃ fl rl, c0 = .int .i64 k ∧ W.cell? (a.add (i * 3)) = some c0 ∧ W.cell? (a.add (i * 3 + 1)) = some c1 ∧ W.cell? (a.add (i * 3 + 2)) = some c2 ∧ ArgI W.heap.size W c1 fl ∧ ArgI W.heap.size W c2 rl := by
        intro i hil
        obtain ⟨cs', hc, ht⟩ := hi i (by rw [hmm]; split <;> omega)
        rw [kN] at hc
        obtain ⟨_, hcl, hat⟩ := World.cells?_some hc
        match cs', hcl with
        | [c0, c1, c2], _ =>
          obtain ⟨xs, n', _, _, _, hlen, hg⟩ := DataW.trod_struct Tryz.underlying77 ht
          have g0 := hg 0 _ rfl
          have g1 := hg 1 _ rfl
          have g2 := hg 2 _ rfl
          match xs, hlen with
          | [y0, y1, y2], _ =>
            simp [k3, k27] at g0 g1 g2
            obtain ⟨k, e0, _, _⟩ := DataW.trod_int Tryz.underlying3 g0
            obtain ⟨fl, h1⟩ := ints_of_cell g1
            obtain ⟨rl, h2⟩ := ints_of_cell g2
            have a0 := hat 0 (by omega)
            have a1 := hat 1 (by omega)
            have a2 := hat 2 (by omega)
            rw [Go.Deep.add_add] at a0 a1 a2
            exact ⟨c0, c1, c2, k, fl, rl, by simpa using e0, by simpa using a0, by simpa using a1, by simpa using a2, h1, h2⟩
      obtain ⟨c0, c1, c2, k, fl, rl, rfl, a0, a1, a2, h1, h2⟩ := hcell0 i hil
      obtain ⟨_, _, _, _, _, _, _, z0, _⟩ := hcell0 0 (by omega)
      have hz : ∃ u, W.cell? a = some u := ⟨_, by simpa [Addr.add] using z0⟩
      obtain ⟨g, o, rfl, hgl, b0⟩ := addr_of_cell hz a0
      obtain ⟨g', o', e1, _, b1⟩ := addr_of_cell hz a1
      obtain ⟨g2, o2, e2, _, b2⟩ := addr_of_cell hz a2
      obtain ⟨rfl, rfl⟩ : g' = g ∧ o' = o := by injection e1 with q1 q2 _; exact ⟨q1.symm, q2.symm⟩
      obtain ⟨rfl, rfl⟩ : g2 = g' ∧ o2 = o' := by injection e2 with q1 q2 _; exact ⟨q1.symm, q2.symm⟩
      exact ⟨⟨k, fl, rl⟩, _, _, c1, c2, rfl, hgl, b0, b1, b2, h1, h2⟩
    refine ⟨List.ofFn (fun i : Fin len0 => Classical.choose (key i.1 i.2)), some a, len0, cap0, rfl, hl, by simp, by unfold maxLen at hm; omega, fun k nd hx => ?_⟩
    have hk : k < len0 := by have := (List.getElem?_eq_some_iff.1 hx).1; simpa using this
    have he : nd = Classical.choose (key k hk) := by
      rw [List.getElem?_ofFn] at hx
      rw [dif_pos hk] at hx
      exact (Option.some.inj hx).symm
    subst he
    obtain ⟨g, o, f, r, h1, h2, h3, h4, h5, h6, h7⟩ := Classical.choose_spec (key k hk)
    exact ⟨g, o, f, r, by rw [h1], h2, h3, h4, h5, h6, h7⟩
end
end Go.Proofs.YthampfkicnakgaaGreatDoor
