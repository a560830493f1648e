/- Walks: the library's sort of few integers, and its turning in place. -/
import Derived.Test.YtjlnhijabdkagaaX4SLevels
import Derived.Test.YtjlnhijabdkagaaX2Levels
import Derived.Test.YtjlnhijabdkagaaA11Swap
namespace Go.Proofs.Ytjlnhijabdkagaa
open Go.RowKit

theorem isNaN_any (x : Int) (w : World) : Calls Try.prog 168 #[.int .i64 x] w fun e w' => e = .returned (.bool false) ∧ w = w' := by
  go_enter Try.func168, Try.ntmps168
  go_wp2_with fail
  go_ret
  exact ⟨rfl, rfl⟩
theorem less_any (x y : Int) (w : World) : Calls Try.prog 158 #[.int .i64 x, .int .i64 y] w fun e w' => e = .returned (.bool (decide (x < y))) ∧ w = w' := by
  go_enter Try.func158, Try.ntmps158
  go_wp2_with fail
  refine (isNaN_any _ _).mono ?_
  rintro e w' ⟨rfl, rfl⟩
  go_wp2_with fail
  go_ret
  exact ⟨rfl, rfl⟩
theorem less_b (x y : Int) (w : World) {b : Bool} (hb : decide (x < y) = b) : Calls Try.prog 158 #[.int .i64 x, .int .i64 y] w fun e w' => e = .returned (.bool b) ∧ w = w' := hb ▸ less_any x y w
def SortOut (w : World) (base : Nat) (v : Value) (l : List Int) (e : Ending) (w' : World) : Prop := e = .returned (.tuple #[]) ∧ OwnI w' base v l ∧ w.grownBy w' v.ownBlock
set_option maxHeartbeats 1000000 in
set_option maxRecDepth 20000 in
theorem insertion_any (g n cap base : Nat) (l : List Int) (w : World) (h : OwnI w base (.slice (some ⟨g, 0, none⟩) n cap) l) (hn : n = l.length) (hl : n ≤ 12) (nz : Int) (hnz : nz = (n : Nat) := by omega) :
    Calls Try.prog 152 #[.slice (some ⟨g, 0, none⟩) n cap, .int .i64 0, .int .i64 nz] w (SortOut w base (.slice (some ⟨g, 0, none⟩) n cap) (sortRow l)) := by
  subst hnz
  have Hn := Lib.hid hn
  clear hn
  go_enter Try.func152, Try.ntmps152
  go_wp2_with fail
  go_loopg [6] (n + 1) (fun m i wr => ∃ k : Nat, 1 ≤ k ∧ k ≤ n + 1 ∧ m = n + 2 - k ∧ i = .int .i64 k ∧ Hid (OwnI wr base (.slice (some ⟨g, 0, none⟩) n cap) (sortTo l k)) ∧ w.grownBy wr (some g))
  case atStart => exact ⟨1, Nat.le_refl _, by omega, by omega, rfl, by show OwnI _ _ _ _; rw [sortTo_one]; exact h, gb_refl _ _⟩
  case round =>
    clear h
    obtain ⟨k, hk1, hk, rfl, rfl, HO, hg⟩ := hrel
    by_cases hlt : k < n
    · obtain ⟨x, hx⟩ : ∃ x, l[k]? = some x := ⟨_, List.getElem?_eq_getElem (by rw [← Hn.out]; exact hlt)⟩
      have HO2 := HO.out
      rw [insAt_begin hx] at HO2
      have HO2 := Lib.hid HO2
      have Hx := Lib.hid hx
      clear HO hx
      obtain ⟨wo, rfl⟩ : ∃ wo : World, wo = wr := ⟨_, rfl⟩
      go_wp2_with fail
      go_loopg [7] (k + 1) (fun m i wr => ∃ j : Nat, j ≤ k ∧ m = j + 1 ∧ i = .int .i64 j ∧ Hid (OwnI wr base (.slice (some ⟨g, 0, none⟩) n cap) (insAt l k j x)) ∧ Hid (∀ y ∈ (sortRow (l.take k)).drop j, x < y) ∧ w.grownBy wr (some g))
      case atStart => exact ⟨k, Nat.le_refl _, rfl, rfl, HO2, by
        intro y hy
        rw [List.drop_of_length_le (by rw [sortRow_len, List.length_take]; omega)] at hy
        simp at hy, hg⟩
      case round =>
        clear HO2 hg
        obtain ⟨j, hj, rfl, rfl, HO, Hgt, hg⟩ := hrel
        have hkl : k < l.length := by rw [← Hn.out]; exact hlt
        have hgetj := insAt_get (l := l) (i := k) (j := j) (x := x) hkl hj
        have hnl : n = (insAt l k j x).length := by rw [insAt_len hkl hj]; exact Hn.out
        by_cases hj0 : 0 < j
        · obtain ⟨y, hy1, hy2⟩ := insAt_prev (l := l) (i := k) (j := j) (x := x) hkl hj hj0
          obtain ⟨j', rfl⟩ : ∃ j', j = j' + 1 := ⟨j - 1, by omega⟩
          simp only [Nat.add_sub_cancel] at hy1 hy2
          obtain ⟨c0, f0, -, -⟩ := HO.out.cell hgetj
          obtain ⟨c1, f1, -, -⟩ := HO.out.cell hy1
          have e0 : IntKind.i64.wrap (((j' + 1 : Nat) : Int) - 1) = (j' : Nat) := by rw [show ((j' + 1 : Nat) : Int) - 1 = (j' : Nat) by omega]; exact IntWalk.i64_in _ (by omega)
          have hjn : j' + 1 < n := by omega
          by_cases hxy : x < y
          · have Hb := Lib.hid (decide_eq_true hxy)
            have Hgt2 : Hid (∀ z ∈ (sortRow (l.take k)).drop j', x < z) := drop_more (j := j' + 1) hj0 hy2 hxy Hgt.out
            have hO3 := ((HO.out.set_ hnl (j' + 1) y).set_ (by rw [List.length_set]; exact hnl) j' x)
            have hsw := insAt_swap (l := l) (i := k) (j := j' + 1) (x := x) hkl hj hj0 hy2
            simp only [Nat.add_sub_cancel] at hsw
            rw [hsw] at hO3
            have HO3 := Lib.hid hO3
            have hg3 : w.grownBy ((wr.setCell ⟨g, j' + 1, none⟩ (.int .i64 y)).setCell ⟨g, j', none⟩ (.int .i64 x)) (some g) := gb_set (p := ⟨g, j', none⟩) (gb_set (p := ⟨g, j' + 1, none⟩) hg (.inr rfl) _) (.inr rfl) _
            clear hO3 hsw hgetj hnl hy1 hy2 HO Hgt hg hkl
            go_wp2_with fail
            go_quiet ((go_at_call 158; exact quiet_l (less_b _ _ _ Hb.out)))
            go_wp2_with fail
            go_region
            all_goals
              go_wp2_with fail
              go_roundg (j' + 1)
              case measure => omega
              case rel => exact ⟨j', by omega, rfl, by go_num, HO3, Hgt2, gb_drew (gb_drewN hg3 _)⟩
          · have Hb := Lib.hid (decide_eq_false hxy)
            have he := insAt_end Hx.out hj (.inr ⟨y, hy2, hxy⟩) Hgt.out
            have HO3 := HO.out
            rw [he] at HO3
            have HO3 := Lib.hid HO3
            clear he hgetj hnl hy1 hy2 HO Hgt hkl hxy
            go_wp2_with fail
            go_quiet ((go_at_call 158; exact quiet_l (less_b _ _ _ Hb.out)))
            go_wp2_with fail
            go_roundg (n + 2 - (k + 1))
            case measure => omega
            case rel => exact ⟨k + 1, by omega, by omega, rfl, by go_num, HO3, gb_drewN hg _⟩
        · obtain rfl : j = 0 := by omega
          have he := insAt_end Hx.out hj (.inl rfl) Hgt.out
          have HO3 := HO.out
          rw [he] at HO3
          have HO3 := Lib.hid HO3
          clear he hgetj hnl HO Hgt hkl hj0
          go_wp2_with fail
          go_quiet (fail)
          go_wp2_with fail
          go_roundg (n + 2 - (k + 1))
          case measure => omega
          case rel => exact ⟨k + 1, by omega, by omega, rfl, by go_num, HO3, gb_drewN hg _⟩
    · have HO2 := HO.out
      rw [sortTo_all l (by rw [← Hn.out]; omega)] at HO2
      have HO2 := Lib.hid HO2
      clear HO
      go_wp2_with fail
      exact bodyPost_ret (results_none rfl _ _ _) rfl ⟨rfl, HO2.out, hg⟩
end Go.Proofs.Ytjlnhijabdkagaa
