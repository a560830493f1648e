/- The plain functions on texts: rows, nodes, plans. Conditions: none. -/
import Derived.Test.YthampfkicnakgaaGreatDoorA2Pure
import Derived.Lib.ItoaNum
import Derived.Lib.Join
namespace Go.Proofs.YthampfkicnakgaaGreatDoor

/-- A string by its bytes. -/
def bstr (l : List UInt8) : ByteArray := ⟨l.toArray⟩
theorem bstr_append (a b : List UInt8) : bstr a ++ bstr b = bstr (a ++ b) := by
  apply ByteArray.ext
  simp [bstr]
theorem bstr_inj {a b : List UInt8} (h : bstr a = bstr b) : a = b := by
  unfold bstr at h
  simpa using h
theorem bstr_size (l : List UInt8) : (bstr l).size = l.length := by simp [bstr, ByteArray.size]
theorem bstr_eta (s : ByteArray) : bstr s.data.toList = s := by
  apply ByteArray.ext
  simp [bstr]
theorem bstr_iff {a b : List UInt8} : bstr a = bstr b ↔ a = b := ⟨bstr_inj, fun h => h ▸ rfl⟩
/-- A row as a text. -/
def rowText (l : List Int) : List UInt8 := if l = [] then [45] else Lib.join (l.map Lib.itoa) [44]
def rowTextOf (l : List Int) : List UInt8 := if rowValid l then rowText l else []
theorem join_snoc {ws : List (List UInt8)} {w sep : List UInt8} (h : ws ≠ []) : Lib.join (ws ++ [w]) sep = Lib.join ws sep ++ (sep ++ w) := by
  cases ws with
  | nil => exact absurd rfl h
  | cons x r =>
    rw [List.cons_append, Lib.join_cons, Lib.join_cons, List.append_assoc]
    congr 1
    simp [Lib.joinTail]
theorem rowText_snoc {l : List Int} {x : Int} (h : l ≠ []) : rowText (l ++ [x]) = rowText l ++ ([44] ++ Lib.itoa x) := by
  unfold rowText
  rw [if_neg (by simp), if_neg h, List.map_append, List.map_singleton, join_snoc (by simpa using h)]
theorem rowText_one (x : Int) : rowText [x] = Lib.itoa x := by
  unfold rowText
  rw [if_neg (by simp), List.map_singleton, Lib.join_one]
theorem dec_small {n : Nat} (h : n < 10) : Lib.decDigits n = [UInt8.ofNat (48 + n)] := by
  rw [Lib.decDigits, dif_pos h]
theorem dec_big {n : Nat} (h : ¬ n < 10) : Lib.decDigits n = Lib.decDigits (n / 10) ++ [UInt8.ofNat (48 + n % 10)] := by
  rw [Lib.decDigits, dif_neg h]
theorem dec_mem {n : Nat} : ∀ b ∈ Lib.decDigits n, 48 ≤ b.toNat ∧ b.toNat ≤ 57 := by
  induction n using Nat.strongRecOn with
  | _ n ih =>
    intro b hb
    by_cases h : n < 10
    · rw [dec_small h] at hb
      obtain rfl : b = UInt8.ofNat (48 + n) := by simpa using hb
      rw [UInt8.toNat_ofNat']
      omega
    · rw [dec_big h] at hb
      rcases List.mem_append.1 hb with hb | hb
      · exact ih (n / 10) (by omega) b hb
      · obtain rfl : b = UInt8.ofNat (48 + n % 10) := by simpa using hb
        rw [UInt8.toNat_ofNat']
        omega
theorem dec_ne (n : Nat) : Lib.decDigits n ≠ [] := by
  by_cases h : n < 10
  · rw [dec_small h]; simp
  · rw [dec_big h]; simp
theorem itoa_nat (n : Nat) : Lib.itoa (n : Int) = Lib.decDigits n := by
  unfold Lib.itoa
  rw [if_neg (by omega)]
  simp
theorem row_nat {l : List Int} (h : rowValid l = true) {x : Int} (hx : x ∈ l) : ∃ n : Nat, x = n ∧ n ≤ 1008 := by
  unfold rowValid at h
  rw [Bool.and_eq_true, List.all_eq_true] at h
  have := h.1 x hx
  unfold inRow at this
  simp only [Bool.and_eq_true, decide_eq_true_eq] at this
  exact ⟨x.toNat, by omega, by omega⟩
theorem rowText_ne (l : List Int) (h : rowValid l = true) : rowText l ≠ [] := by
  unfold rowText
  split
  · simp
  · rename_i hl
    obtain ⟨x, r, rfl⟩ : ∃ x r, l = x :: r := by
      cases l with
      | nil => exact absurd rfl hl
      | cons x r => exact ⟨x, r, rfl⟩
    obtain ⟨n, rfl, _⟩ := row_nat h (x := x) (by simp)
    rw [List.map_cons, Lib.join_cons, itoa_nat]
    intro e
    exact dec_ne n (List.append_eq_nil_iff.1 e).1
theorem rowTextOf_nil {l : List Int} : rowTextOf l = [] ↔ rowValid l = false := by
  unfold rowTextOf
  split
  · rename_i h
    rw [h]
    exact ⟨fun e => absurd e (rowText_ne l h), fun e => by cases e⟩
  · rename_i h
    simpa using h
/-- The bytes of a row's text: digits, commas, a hyphen. -/
theorem rowText_mem {l : List Int} (h : rowValid l = true) : ∀ b ∈ rowText l, b ≠ 32 ∧ b ≠ 10 := by
  have key : ∀ n : Nat, ∀ b ∈ Lib.decDigits n, b ≠ 32 ∧ b ≠ 10 := fun n b hb => by
    have := dec_mem b hb
    constructor <;> (rintro rfl; revert this; decide)
  unfold rowText
  split
  · decide
  · rename_i hl
    have hall : ∀ x ∈ l, ∃ n : Nat, x = n := fun x hx => let ⟨n, e, _⟩ := row_nat h hx; ⟨n, e⟩
    cases l with
    | nil => exact absurd rfl hl
    | cons x r =>
      intro b hb
      rw [List.map_cons, Lib.join_cons] at hb
      rcases List.mem_append.1 hb with hb | hb
      · obtain ⟨n, rfl⟩ := hall x (by simp)
        rw [itoa_nat] at hb
        exact key n b hb
      · unfold Lib.joinTail at hb
        obtain ⟨w, hw, hb⟩ := List.mem_flatten.1 hb
        rw [List.map_map] at hw
        obtain ⟨y, hy, rfl⟩ := List.mem_map.1 hw
        obtain ⟨n, rfl⟩ := hall y (by simp [hy])
        rw [Function.comp, itoa_nat] at hb
        rcases List.mem_append.1 hb with hb | hb
        · obtain rfl : b = 44 := by simpa using hb
          decide
        · exact key n b hb
/-- The word of a kind. -/
def kindWord (k : Int) : List UInt8 := if k = 0 then "fixed".toUTF8.data.toList else if k = 1 then "add".toUTF8.data.toList else if k = 2 then "times".toUTF8.data.toList else if k = 3 then "sums".toUTF8.data.toList else if k = 4 then "sort".toUTF8.data.toList else "turn".toUTF8.data.toList
/-- What behind a node's word names what it needs. -/
def fromText (l : List Int) : List UInt8 := (l.map fun x => 32 :: Lib.itoa x).flatten
def nodeText (x : Node) : List UInt8 := if nodeFits x 10 then (if x.kind = 0 then kindWord 0 ++ (32 :: rowText x.row) else kindWord x.kind ++ fromText x.frm) else []
theorem fromText_snoc (l : List Int) (x : Int) : fromText (l ++ [x]) = fromText l ++ (32 :: Lib.itoa x) := by simp [fromText]
end Go.Proofs.YthampfkicnakgaaGreatDoor
