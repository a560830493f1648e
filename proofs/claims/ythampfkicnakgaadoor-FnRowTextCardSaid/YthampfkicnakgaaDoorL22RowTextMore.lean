/- Walks: laws.FnRowTextMore. -/
import Derived.Test.YthampfkicnakgaaDoorT13List
import Derived.Test.YthampfkicnakgaaDoorB4Row
import Derived.Test.YthampfkicnakgaaDoorA9Deep
namespace Go.Proofs.YthampfkicnakgaaDoor
open Go.RowKit
def DrawnRow (w : World) (e : Ending) (w' : World) : Prop := ∃ v l, e = .returned v ∧ RI w' v l ∧ l.length ≤ 7 ∧ w.grownBy w' none
theorem drawRowText_any (w : World) (v : Value) (n : Nat) (h : Bytes w w.heap.size v n) (hn : n ≤ 1048576) : Calls Tryd.prog 15 #[v] w (DrawnRow w) := by
  obtain ⟨A, c, rfl, h2⟩ := id h
  go_enter Tryd.func15, Tryd.ntmps15
  go_wp2_with fail
  refine (l6Open_any _ _ n (by exact h) hn).mono ?_
  rintro e w1 ⟨rb, rfl, hrd, hg⟩
  go_wp2_with fail
  refine (pick_any w.heap.size rb 0 _ _ (by exact hrd) (by omega) (by omega)).mono ?_
  rintro e w2 ⟨r1, rfl, hr1, _, hrd2, hg2⟩
  have hr1' := hr1 (by omega)
  obtain ⟨m, hm⟩ := Int.eq_ofNat_of_zero_le hr1'.1
  subst hm
  have hm7 : m ≤ 7 := by omega
  go_wp2_with fail
  refine (l91Row_any w.heap.size rb _ m _ hrd2 (by omega) (by omega) (by omega)).mono ?_
  rintro e w3 ⟨v3, l, rfl, hri, hlen, -, p', -, -, -, hg3⟩
  obtain ⟨A3, n3, c3, rfl⟩ := hri.val
  go_wp2_with fail
  go_ret
  exact ⟨_, l, rfl, hri, by omega, gb_new (gb_new hg hg2 (fun g e => by cases e; exact .inl hrd.le)) hg3 (fun g e => by cases e; exact .inl hrd.le)⟩
theorem bstr_isEmpty {l : List UInt8} (h : l ≠ []) : (bstr l).toList.isEmpty = false := by
  rw [ByteArray.toList_eq]
  cases l with
  | nil => exact absurd rfl h
  | cons x r => rfl
theorem rowTextOf_more {l : List Int} (h : rowValid l = true) (h0 : l ≠ []) (h6 : l.length ≠ 6) : rowTextOf (l ++ [0]) = rowTextOf l ++ [44, 48] := by
  have hl := rowValid_len h
  have hv : rowValid (l ++ [0]) = true := by
    unfold rowValid at h ⊢
    rw [Bool.and_eq_true] at h ⊢
    refine ⟨?_, by simp; omega⟩
    rw [List.all_append, h.1]
    decide
  have hz : Lib.itoa 0 = [48] := by
    have := itoa_nat 0
    rw [dec_small (by omega)] at this
    exact this
  unfold rowTextOf
  rw [if_pos hv, if_pos h, rowText_snoc h0, hz]
  rfl
set_option maxHeartbeats 800000 in
set_option maxRecDepth 20000 in
theorem fnRowTextMore_any (w : World) (v : Value) (n : Nat) (h : Bytes w w.heap.size v n) (hn : n ≤ 9223372036854775807) (hp : PTab w) :
    Calls Tryd.prog 4 #[v] w fun e w' => e = .returned (.bool true) ∧ w.grownBy w' none := by
  obtain ⟨A, c, rfl, h2⟩ := id h
  have H := Lib.hid h
  clear h h2
  by_cases hbig : 1048576 < n
  · go_enter Tryd.func4, Tryd.ntmps4
    go_wp2_with fail
    go_ret
    exact ⟨rfl, gb_refl _ _⟩
  · go_enter Tryd.func4, Tryd.ntmps4
    go_wp2_with fail
    refine (drawRowText_any _ _ n H.out (by omega)).mono ?_
    rintro e w1 ⟨v1, l, rfl, hr1, hl7, hg1⟩
    obtain ⟨A1, n1, c1, rfl, hnc1, hn1⟩ := hr1.form'
    have Hn1 := Lib.hid hn1
    clear hn1
    go_wp2_with fail
    refine (implRowText_any _ l _ hr1 (hp.new hg1)).mono ?_
    rintro e w2 ⟨rfl, hg2⟩
    have g2 := gb_trans hg1 hg2
    have hr2 := hr1.new hg2
    go_wp2_with fail
    refine (specRowText_any _ l _ hr2).mono ?_
    rintro e w3 ⟨rfl, hg3⟩
    have g3 := gb_trans g2 hg3
    have hr3 := hr2.new hg3
    by_cases hv : rowValid l = true
    · have hne : (bstr (rowTextOf l)).toList.isEmpty = false := bstr_isEmpty (fun e0 => by rw [rowTextOf_nil, hv] at e0; cases e0)
      by_cases h0 : n1 = 0
      · subst h0
        go_wp2_with fail
        go_ret
        exact ⟨rfl, g3⟩
      · by_cases h6 : n1 = 6
        · subst h6
          go_wp2_with fail
          go_ret
          exact ⟨rfl, g3⟩
        · have hb0 : ((n1 : Int) == 0) = false := by simpa using h0
          have hb6 : ((n1 : Int) == 6) = false := by simp; omega
          have hmore : Hid (rowTextOf (l ++ [0]) = rowTextOf l ++ [44, 48]) := by
            refine rowTextOf_more hv ?_ ?_
            · rintro rfl; exact h0 Hn1.out
            · rw [← Hn1.out]; exact h6
          have hq3 : QI (w3.alloc (.cells #[] 3)) w3.heap.size (.slice (some ⟨w3.heap.size, 0, none⟩) 0 0) [] := (OwnI.empty w3 (Nat.le_refl _)).qi
          have hr4 := hr3.alloc (.cells #[] 3)
          have hb4 : w3.heap.size ≤ (w3.alloc (.cells #[] 3)).heap.size := by rw [World.size_alloc]; omega
          have hg4 : w3.grownBy (w3.alloc (.cells #[] 3)) none := World.grownBy_alloc w3 _ none
          go_upto_region 8 with fail
          go_wp2_with (at_builtin; go_must (refine wp_append_ints (.tmp 35) (.tmp 36) rfl rfl hq3 hr4 (by simp; omega) hb4 rfl rfl ?_))
          intro v5 w5 hq5 hg5 _
          obtain ⟨A5, n5, c5, rfl, -, -⟩ := hq5.slice
          have hg45 : w3.grownBy w5 none := gb_new hg4 hg5 (fun g e => by cases e; exact .inl (Nat.le_refl _))
          go_wp2_with (at_builtin; go_must (refine wp_append_int (.tmp 37) (.tmp 38) rfl rfl hq5 (by omega) hg45.size rfl rfl rfl ?_))
          intro v6 w6 hq6 hg6 _
          obtain ⟨A6, n6, c6, rfl, -, -⟩ := hq6.slice
          have hg36 : w3.grownBy w6 none := hq5.gb hg45 hg6 (Nat.le_refl _)
          have g6 := gb_trans g3 hg36
          have hsz : ¬ (9223372036854775807 < (bstr (rowTextOf l)).size + (⟨#[44, 48]⟩ : ByteArray).size) := no_long (b := [44, 48]) (by
            have h1 : (rowTextOf l).length ≤ 200 := by
              unfold rowTextOf
              rw [if_pos hv]
              by_cases hl0 : l = []
              · subst hl0; decide
              · rw [← rowPre_all hl0]
                exact rowPre_len hv _
            simp
            omega)
          have hap : bstr (rowTextOf l) ++ (⟨#[44, 48]⟩ : ByteArray) = bstr (rowTextOf (l ++ [0])) := by
            rw [hmore.out, ← bstr_append]
            rfl
          go_wp2_with fail
          refine (implRowText_any _ (l ++ [0]) _ hq6.ri (hp.new g6)).mono ?_
          rintro e w7 ⟨rfl, hg7⟩
          go_wp2_with fail
          go_ret
          exact ⟨rfl, gb_trans g6 hg7⟩
    · have hv' : rowValid l = false := by simpa using hv
      have he : Hid (rowTextOf l = []) := rowTextOf_nil.2 hv'
      have hbe : bstr (rowTextOf l) = (⟨#[]⟩ : ByteArray) := by rw [he.out]; rfl
      rw [hbe]
      go_wp2_with fail
      go_ret
      exact ⟨rfl, g3⟩
end Go.Proofs.YthampfkicnakgaaDoor
