/- Walks: spec.DrawNodeText, laws.FnNodeText, laws.FnNodeTextRow. -/
import Derived.Test.YthampfkicnakgaaGreatDoorT14Node
import Derived.Test.YthampfkicnakgaaGreatDoorB5Node
namespace Go.Proofs.YthampfkicnakgaaGreatDoor
open Go.RowKit

theorem Bytes.mono {w : World} {B0 B1 n : Nat} {v : Value} (h : Bytes w B0 v n) (hB : B0 ≤ B1) : Bytes w B1 v n := by
  obtain ⟨A, c, rfl, hnc, hc⟩ := h
  exact ⟨A, c, rfl, hnc, fun h0 => by obtain ⟨x, rfl, hx, hz⟩ := hc h0; exact ⟨x, rfl, by omega, hz⟩⟩
/-- Blanks in a text. -/
def blanks (l : List UInt8) : Nat := l.countP (fun b => b == 32)
theorem blanks_append (a b : List UInt8) : blanks (a ++ b) = blanks a + blanks b := List.countP_append
theorem blanks_cons (b : List UInt8) : blanks (32 :: b) = 1 + blanks b := by
  unfold blanks
  rw [List.countP_cons_of_pos (by rfl)]
  omega
theorem blanks_none {l : List UInt8} (h : ∀ b ∈ l, b ≠ 32) : blanks l = 0 := by
  unfold blanks
  rw [List.countP_eq_zero]
  intro b hb
  simpa using h b hb
theorem blanks_itoa {x : Int} (h : 0 ≤ x) : blanks (Lib.itoa x) = 0 := by
  obtain ⟨m, rfl⟩ := Int.eq_ofNat_of_zero_le h
  refine blanks_none (fun b hb => ?_)
  rw [show Lib.itoa (m : Int) = Lib.decDigits m from itoa_nat m] at hb
  have := dec_mem b hb
  rintro rfl
  revert this
  decide
theorem blanks_word (k : Int) : blanks (kindWord k) = 0 := by
  unfold kindWord
  repeat' split
  all_goals decide
theorem blanks_from {l : List Int} (h : ∀ y ∈ l, 0 ≤ y) : blanks (fromText l) = l.length := by
  unfold fromText
  induction l with
  | nil => rfl
  | cons x r ih =>
    have e := ih (fun y hy => h y (by simp [hy]))
    rw [List.map_cons, List.flatten_cons, blanks_append, e, blanks_cons, blanks_itoa (h x (by simp)), List.length_cons]
    omega
theorem nodeText_blanks {x : Node} (h : nodeFits x 10 = true) : blanks (nodeText x) = if x.frm.length = 0 then 1 else x.frm.length := by
  obtain ⟨⟨h0, h5⟩, hn, -, hall, hr, -⟩ := fits_parts h
  unfold nodeText
  rw [if_pos h]
  by_cases hk : x.kind = 0
  · have e0 : x.frm.length = 0 := by rw [hk] at hn; simp [kindNeeds] at hn; simpa using hn
    rw [if_pos hk, if_pos e0, blanks_append, blanks_cons, blanks_word, blanks_none (fun b hb => (rowText_mem (hr hk) b hb).1)]
  · have hpos : 1 ≤ kindNeeds x.kind := by
      rcases (show x.kind = 1 ∨ x.kind = 2 ∨ x.kind = 3 ∨ x.kind = 4 ∨ x.kind = 5 by omega) with e | e | e | e | e <;> rw [e] <;> decide
    rw [if_neg hk, if_neg (by omega), blanks_append, blanks_word, blanks_from (fun y hy => (hall y hy).1)]
    omega
theorem nodeText_ne {x : Node} (h : nodeFits x 10 = true) : nodeText x ≠ [] := by
  intro e
  have := nodeText_blanks h
  rw [e] at this
  have k : (0 : Nat) = if x.frm.length = 0 then 1 else x.frm.length := this
  split at k <;> omega
theorem nodeText_len {x : Node} (h : nodeFits x 10 = true) : (nodeText x).length ≤ 300 := by
  obtain ⟨-, -, h2, hall, hr, -⟩ := fits_parts h
  have hw := kindWord_len x.kind
  unfold nodeText
  rw [if_pos h]
  by_cases hk : x.kind = 0
  · rw [if_pos hk]
    rw [hk] at hw
    have hrt : (rowText x.row).length ≤ 200 := by
      by_cases hl0 : x.row = []
      · rw [hl0]; decide
      · rw [← rowPre_all hl0]
        exact rowPre_len (hr hk) _
    simp
    omega
  · rw [if_neg hk]
    have := fromText_len (l := x.frm) (fun y hy => by have := hall y hy; omega)
    rw [List.length_append]
    omega
end Go.Proofs.YthampfkicnakgaaGreatDoor
