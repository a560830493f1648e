/- Walks: a row as a text: spec.l41Row, spec.RowText. -/
import Derived.Test.YthampfkicnakgaaGreatDoorT11Dec
import Derived.Test.YthampfkicnakgaaGreatDoorB1Rows
import Derived.Deep.LoopGhost
import Derived.Test.YthampfkicnakgaaGreatDoorA4Vals
namespace Go.Proofs.YthampfkicnakgaaGreatDoor
open Go.RowKit

/-- What stands there once k values have been written. -/
def rowPre (l : List Int) (k : Nat) : List UInt8 := Lib.join ((l.take k).map Lib.itoa) [44]
theorem rowPre_len {l : List Int} (h : rowValid l = true) (k : Nat) : (rowPre l k).length ≤ 200 := by
  have hl := rowValid_len h
  have hall : ∀ x ∈ l, (Lib.itoa x).length ≤ 20 := fun x hx => by
    obtain ⟨n, rfl, hn⟩ := row_nat h hx
    rw [itoa_nat]
    exact dec_len (by omega)
  have key : ∀ ws : List (List UInt8), (∀ w ∈ ws, w.length ≤ 20) → (Lib.join ws [44]).length ≤ ws.length * 21 := by
    intro ws hw
    cases ws with
    | nil => simp [Lib.join_nil]
    | cons x r =>
      rw [Lib.join_cons, List.length_append]
      have hx := hw x (by simp)
      have hr : (Lib.joinTail [44] r).length ≤ r.length * 21 := by
        have hw' : ∀ w ∈ r, w.length ≤ 20 := fun w hw0 => hw w (by simp [hw0])
        clear hx hw
        unfold Lib.joinTail
        induction r with
        | nil => simp
        | cons y r ih =>
          have hy := hw' y (by simp)
          have := ih (fun w hw0 => hw' w (by simp [hw0]))
          simp only [List.map_cons, List.flatten_cons, List.length_append, List.length_cons, List.length_nil] at *
          omega
      rw [List.length_cons]
      omega
  have := key ((l.take k).map Lib.itoa) (fun w hw => by
    obtain ⟨x, hx, rfl⟩ := List.mem_map.1 hw
    exact hall x (List.mem_of_mem_take hx))
  unfold rowPre
  rw [List.length_map, List.length_take] at this
  omega
theorem rowPre_zero (l : List Int) : rowPre l 0 = [] := rfl
theorem rowPre_one {l : List Int} {x : Int} (h : l[0]? = some x) : rowPre l 1 = Lib.itoa x := by
  unfold rowPre
  obtain ⟨h0, rfl⟩ := List.getElem?_eq_some_iff.1 h
  rw [List.take_succ_eq_append_getElem h0]
  simp [Lib.join_one]
theorem rowPre_succ {l : List Int} {k : Nat} {x : Int} (h : l[k]? = some x) (hk : 0 < k) : rowPre l (k + 1) = rowPre l k ++ [44] ++ Lib.itoa x := by
  unfold rowPre
  obtain ⟨h0, rfl⟩ := List.getElem?_eq_some_iff.1 h
  rw [List.take_succ_eq_append_getElem h0, List.map_append, List.map_singleton, join_snoc, List.append_assoc]
  intro e
  have := congrArg List.length e
  rw [List.length_map, List.length_take, List.length_nil] at this
  omega
theorem rowPre_all {l : List Int} (h : l ≠ []) : rowPre l l.length = rowText l := by
  unfold rowPre rowText
  rw [if_neg h, List.take_of_length_le (Nat.le_refl _)]
set_option maxRecDepth 20000 in
theorem l41Row_any (v : Value) (l : List Int) (w : World) (h : RI w v l) (hv : rowValid l = true) : Calls Tryz.prog 30 #[v] w (StrOut w (rowText l)) := by
  obtain ⟨A, n, c, rfl, _, hn⟩ := h.form'
  have hl6 := rowValid_len hv
  have hn6 : n ≤ 6 := by omega
  have Hv := Lib.hid hv
  have Hn := Lib.hid hn
  by_cases h0 : n = 0
  · have Hr : Hid (rowText l = [45]) := by
      have : l = [] := List.eq_nil_of_length_eq_zero (by omega)
      rw [this]
      rfl
    clear hn hl6 hv
    subst h0
    go_enter Tryz.func30, Tryz.ntmps30
    go_wp2_with fail
    go_ret
    exact ⟨by rw [Hr.out]; rfl, gb_refl _ _⟩
  · have hb0 : ((n : Int) == 0) = false := by simpa using h0
    clear hn hl6 hv
    go_enter Tryz.func30, Tryz.ntmps30
    go_wp2_with fail
    go_loopg [3, 4] (n + 1) (fun mm s i wr => ∃ k : Nat, k ≤ n ∧ mm = n + 1 - k ∧ i = .int .i64 k ∧ s = .string (bstr (rowPre l k)) ∧ w.grownBy wr none)
    case atStart => exact ⟨0, Nat.zero_le _, rfl, rfl, rfl, gb_refl _ _⟩
    case round =>
      obtain ⟨k, hk, rfl, rfl, rfl, hg⟩ := hrel
      by_cases hlt : k < n
      · obtain ⟨g, o, x, rfl, hx, c0⟩ := (h.new hg).at_ hlt
        obtain ⟨m, hxm, hm⟩ := row_nat Hv.out (List.mem_of_getElem? hx)
        have Hx := Lib.hid hx
        have Hxm := Lib.hid hxm
        have hit : Lib.itoa x = Lib.decDigits m := by rw [hxm, itoa_nat]
        have hlen := rowPre_len Hv.out k
        have hdl := dec_len (n := m) (by omega)
        by_cases hk0 : k = 0
        · subst hk0
          have Hp : Hid (rowPre l 1 = Lib.decDigits m) := by show _ = _; rw [rowPre_one hx, hit]
          have hsz : ¬ (9223372036854775807 < (bstr (rowPre l 0)).size + (bstr (Lib.decDigits m)).size) := no_long (by omega)
          have Hm := Lib.hid hm
          replace c0 : wr.cell? ⟨g, o, none⟩ = some (.int .i64 x) := by simpa using c0
          clear hx hxm hit hlen hdl hm
          go_wp2_with fail
          refine (l6Dec_any m _ x Hxm.out (by have := Hm.out; omega)).mono ?_
          rintro e w3 ⟨rfl, hg3⟩
          go_wp2_with fail
          go_roundg (n + 1 - (0 + 1))
          case measure => omega
          case rel => exact ⟨0 + 1, by omega, rfl, by go_num, by rw [Hp.out, rowPre_zero, bstr_append]; rfl, gb_trans hg hg3⟩
        · have hgt : (0 : Int) < (k : Int) := by omega
          have Hp : Hid (rowPre l (k + 1) = rowPre l k ++ [44] ++ Lib.decDigits m) := by show _ = _; rw [rowPre_succ hx (by omega), hit]
          have hsz1 : ¬ (9223372036854775807 < (bstr (rowPre l k)).size + (⟨#[44]⟩ : ByteArray).size) := no_long (b := [44]) (by simp; omega)
          have hap : bstr (rowPre l k) ++ (⟨#[44]⟩ : ByteArray) = bstr (rowPre l k ++ [44]) := bstr_append _ [44]
          have hsz2 : ¬ (9223372036854775807 < (bstr (rowPre l k ++ [44])).size + (bstr (Lib.decDigits m)).size) := no_long (by simp; omega)
          have Hm := Lib.hid hm
          clear hx hxm hit hlen hdl hm hk0
          go_wp2_with fail
          refine (l6Dec_any m _ x Hxm.out (by have := Hm.out; omega)).mono ?_
          rintro e w3 ⟨rfl, hg3⟩
          go_wp2_with fail
          go_roundg (n + 1 - (k + 1))
          case measure => omega
          case rel => exact ⟨k + 1, by omega, rfl, by go_num, by rw [Hp.out, bstr_append], gb_trans hg hg3⟩
      · obtain rfl : k = n := by omega
        have Hr : Hid (rowPre l k = rowText l) := by
          show _ = _
          rw [Hn.out]
          refine rowPre_all ?_
          rintro rfl
          exact h0 Hn.out
        rw [Hr.out]
        go_wp2_with fail
        go_ret
        exact ⟨rfl, hg⟩
theorem specRowText_any (v : Value) (l : List Int) (w : World) (h : RI w v l) : Calls Tryz.prog 21 #[v] w (StrOut w (rowTextOf l)) := by
  obtain ⟨A, n, c, rfl, _, hn⟩ := h.form'
  by_cases hv : rowValid l = true
  · have Hr : Hid (rowTextOf l = rowText l) := by show _ = _; unfold rowTextOf; rw [if_pos hv]
    have Hv := Lib.hid hv
    clear hn hv
    go_enter Tryz.func21, Tryz.ntmps21
    go_wp2_with fail
    refine (specRowValid_b _ l _ h Hv.out).mono ?_
    rintro e w1 ⟨rfl, rfl⟩
    go_wp2_with fail
    refine (l41Row_any _ l _ h Hv.out).mono ?_
    rintro e w2 ⟨rfl, hg2⟩
    go_wp2_with fail
    go_ret
    exact ⟨by rw [Hr.out]; rfl, hg2⟩
  · have hv' : rowValid l = false := by simpa using hv
    have Hr : Hid (rowTextOf l = []) := rowTextOf_nil.2 hv'
    have Hv := Lib.hid hv'
    clear hn hv hv'
    go_enter Tryz.func21, Tryz.ntmps21
    go_wp2_with fail
    refine (specRowValid_b _ l _ h Hv.out).mono ?_
    rintro e w1 ⟨rfl, rfl⟩
    go_wp2_with fail
    go_ret
    exact ⟨by rw [Hr.out]; rfl, gb_refl _ _⟩
end Go.Proofs.YthampfkicnakgaaGreatDoor
