/- What the frames of this seat's laws share: the door's variables, arguments. -/
import Derived.Test.YthampfkicnakgaaGreatDoorT13List
import Derived.Test.YthampfkicnakgaaGreatDoorRows
import Derived.WalkKit
import Derived.ProofKit
import Derived.OpenShut
import Derived.ShutString
import Derived.ChangeOld
import Derived.Below
import Derived.LaidMore
import Derived.LaidHandle
import Derived.MakeChecks
import Derived.Stop.LaidErr
import Derived.Stop.Joined
import Derived.Deep.Slices
import Derived.Deep.Fields
namespace Go.Proofs.YthampfkicnakgaaGreatDoor
open Go.ChangeShapes Go.WideShapes Go.ChangeAt Go.RowKit Go.Deep

theorem own_ : ownKnob Tryz.prog.godebug = none := by kernel_rfl
theorem laidOut_ : laidOutB Tryz.prog = true := by kernel_rfl
theorem inst_gen {P : Program} {fn : Func} (h1 : fn.origin = "") (h2 : fn.targs = #[]) (h3 : fn.name.toList.contains (Char.ofNat 91) = false) : fn.isInstance P "" [] :=
  ⟨h1, by rw [h2]; rfl, by rw [if_pos rfl]; exact ⟨rfl, h3⟩⟩
theorem wrap_gen (P : Program) (fn : Func) (h : Check.packageOf fn.name ≠ "main") : fn.isWrapper P false "" := by
  unfold Func.isWrapper
  rw [if_neg h]
  exact ⟨rfl, rfl⟩
theorem gTab : Tryz.prog.globalNamed "internal/strconv.uint64pow10" = some 4 := by kernel_rfl
theorem ptab_of {rest : List (String × DataW Unit)} {W : World} (h : laidMet Tryz.prog (("internal/strconv.uint64pow10", Rows.laid_internal_strconv_uint64pow10) :: rest) W) : PTab W :=
  Lib.tabIs_of_head (t := 183) (n := 20) (e := 161) gTab (by kernel_rfl) Tryz.underlying183 Tryz.underlying161 (by kernel_rfl) (by kernel_rfl) h
theorem lt_of_cell_ {w : World} {a : Addr} {v : Value} (h : w.cell? a = some v) : a.block < w.heap.size := by
  unfold World.cell? at h
  split at h
  · rename_i hb; exact (Array.getElem?_eq_some_iff.1 hb).1
  · cases h

theorem bytes_of_arg {H : Type} {enc : TypeId × Value → H} {W : World} {a0 : Option Addr} {len0 cap0 : Nat} {d0 : DataW H} {p0 : List MemPlace}
    (h0 : DataW.Trod enc Tryz.prog W 0 (fun _ => true) true 22 (.slice a0 len0 cap0) d0 p0) : Bytes W W.heap.size (.slice a0 len0 cap0) len0 ∧ len0 ≤ 9223372036854775807 := by
  obtain ⟨fuel, hf⟩ := h0
  rcases open_ints Tryz.underlying22 Tryz.underlying5 (by kernel_rfl) hf with ⟨hcs, _⟩ | ⟨x, l, c, zs, hcs, _, hl, hm, hz, _, hcell, hwz⟩
  · simp [Value.cells] at hcs
    obtain ⟨rfl, rfl, rfl⟩ := hcs
    exact ⟨⟨none, 0, rfl, Nat.le_refl _, fun h => absurd h (by omega)⟩, by omega⟩
  · simp [Value.cells] at hcs
    obtain ⟨rfl, rfl, rfl⟩ := hcs
    refine ⟨⟨_, _, rfl, hl, fun h => ⟨x, rfl, ?_, fun j hj => ?_⟩⟩, by unfold maxLen at hm; omega⟩
    · have h1 := hcell 0 (by simp at hz; omega)
      simpa [Addr.add] using lt_of_cell_ h1
    · have hj' : j < zs.length := by simp at hz; omega
      have hw := hwz (zs.getD j 0) (by rw [List.getD_eq_getElem?_getD, List.getElem?_eq_getElem hj']; simp)
      have hb := bounds_u8 hw
      exact ⟨zs.getD j 0, hb.1, hb.2, hcell j hj'⟩
section
variable {H : Type} {enc : TypeId × Value → H} {W : World} {base : Nat} {spare : Nat → Bool} {held : Bool}
theorem addr_of_cell {a : Addr} {v : Value} {j : Nat} (h0 : ∃ u, W.cell? a = some u) (h : W.cell? (a.add j) = some v) : ∃ g o, a = ⟨g, o, none⟩ ∧ g < W.heap.size ∧ W.cell? ⟨g, o + j, none⟩ = some v := by
  obtain ⟨g, o, s⟩ := a
  obtain ⟨u, hu⟩ := h0
  have hs : s = none := World.cell?_spot hu
  subst hs
  refine ⟨g, o, rfl, lt_of_cell_ hu, ?_⟩
  have e : (⟨g, o, none⟩ : Addr).add j = ⟨g, o + j, none⟩ := by unfold Addr.add; split <;> simp_all
  rw [← e]
  exact h
theorem ints_of_cell {n : Nat} {v : Value} {y : DataW H × List MemPlace} (h : DataW.trod enc Tryz.prog W base spare held n 24 [v] = some y) : ∃ l, ArgI W.heap.size W v l := by
  rcases open_ints Tryz.underlying24 Tryz.underlying3 (by kernel_rfl) h with ⟨hcs, _⟩ | ⟨a, len, cap, zs, hcs, _, hl, hm, hz, _, hcell, _⟩
  · obtain rfl : v = .slice none 0 0 := by simpa using hcs
    exact ⟨[], none, 0, 0, rfl, Nat.le_refl _, rfl, by omega, fun j x hx => by simp at hx⟩
  · obtain rfl : v = .slice (some a) len cap := by simpa using hcs
    have hlz : len ≤ zs.length := by rw [hz]; split <;> omega
    refine ⟨zs.take len, some a, len, cap, rfl, hl, by simp; omega, by unfold maxLen at hm; omega, fun j x hx => ?_⟩
    have hj : j < (zs.take len).length := (List.getElem?_eq_some_iff.1 hx).1
    simp only [List.length_take] at hj
    have hx2 : zs.getD j 0 = x := by
      rw [List.getElem?_take] at hx
      split at hx
      · rw [List.getD_eq_getElem?_getD, hx]; rfl
      · cases hx
    have hc := hcell j (by omega)
    rw [hx2] at hc
    have hc0 := hcell 0 (by omega)
    obtain ⟨g, o, rfl, hg, hcg⟩ := addr_of_cell ⟨_, by simpa [Addr.add] using hc0⟩ hc
    exact ⟨g, o, rfl, hg, hcg⟩

theorem ints_of_arg {a0 : Option Addr} {len0 cap0 : Nat} {d0 : DataW H} {p0 : List MemPlace}
    (h0 : DataW.Trod enc Tryz.prog W 0 (fun _ => true) true 24 (.slice a0 len0 cap0) d0 p0) : ∃ l, ArgI W.heap.size W (.slice a0 len0 cap0) l := by
  obtain ⟨fuel, hf⟩ := h0
  exact ints_of_cell hf
end
end Go.Proofs.YthampfkicnakgaaGreatDoor
