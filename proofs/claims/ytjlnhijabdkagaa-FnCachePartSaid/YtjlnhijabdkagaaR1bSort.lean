/- Walks: the library's sort of few integers; Reverse. -/
import Derived.Test.YtjlnhijabdkagaaR1Sort
namespace Go.Proofs.Ytjlnhijabdkagaa
open Go.RowKit

set_option maxRecDepth 100000 in
set_option maxHeartbeats 1000000 in
theorem pdq_any (g n cap base : Nat) (l : List Int) (w : World) (h : OwnI w base (.slice (some ⟨g, 0, none⟩) n cap) l) (hn : n = l.length) (hl : n ≤ 12) (lim : Int) :
    Calls Try.prog 150 #[.slice (some ⟨g, 0, none⟩) n cap, .int .i64 0, .int .i64 n, .int .i64 lim] w (SortOut w base (.slice (some ⟨g, 0, none⟩) n cap) (sortRow l)) := by
  have Hn := Lib.hid hn
  clear hn
  go_enter Try.func150, Try.ntmps150
  go_wp2_with fail
  refine wp_loop_rounds 1 ?_
  rw [rounds_succ]
  go_wp2_with fail
  refine (insertion_any g n cap base l _ h Hn.out hl _).mono ?_
  rintro e w1 ⟨rfl, ho, hg⟩
  go_wp2_with fail
  exact bodyPost_ret (results_none rfl _ _ _) rfl ⟨rfl, ho, hg⟩
/-- 'bits.Len' of a small number is some number. -/
def SomeNum (w : World) (e : Ending) (w' : World) : Prop := (∃ z : Int, e = .returned (.int .i64 z)) ∧ w = w'
set_option maxRecDepth 100000 in
theorem len64_any (n : Nat) (hn : n ≤ 12) (w : World) : Calls Try.prog 162 #[.int .u64 n] w (SomeNum w) := by
  rcases (show n = 0 ∨ n = 1 ∨ n = 2 ∨ n = 3 ∨ n = 4 ∨ n = 5 ∨ n = 6 ∨ n = 7 ∨ n = 8 ∨ n = 9 ∨ n = 10 ∨ n = 11 ∨ n = 12 by omega) with rfl | rfl | rfl | rfl | rfl | rfl | rfl | rfl | rfl | rfl | rfl | rfl | rfl
  all_goals
    go_enter Try.func162, Try.ntmps162
    go_wp2_with fail
    go_ret
    exact ⟨⟨_, rfl⟩, rfl⟩
theorem bitsLen_any (n : Nat) (hn : n ≤ 12) (w : World) : Calls Try.prog 151 #[.int .u64 n] w (SomeNum w) := by
  go_enter Try.func151, Try.ntmps151
  go_wp2_with fail
  refine (len64_any n hn _).mono ?_
  rintro e w' ⟨⟨z, rfl⟩, rfl⟩
  go_wp2_with fail
  go_ret
  exact ⟨⟨z, rfl⟩, rfl⟩
theorem sortRows_any (g n cap base : Nat) (l : List Int) (w : World) (h : OwnI w base (.slice (some ⟨g, 0, none⟩) n cap) l) (hn : n = l.length) (hl : n ≤ 12) :
    Calls Try.prog 148 #[.slice (some ⟨g, 0, none⟩) n cap] w (SortOut w base (.slice (some ⟨g, 0, none⟩) n cap) (sortRow l)) := by
  have Hn := Lib.hid hn
  clear hn
  go_enter Try.func148, Try.ntmps148
  go_wp2_with fail
  refine (bitsLen_any n hl _).mono ?_
  rintro e w' ⟨⟨z, rfl⟩, rfl⟩
  go_wp2_with fail
  refine (pdq_any g n cap base l _ h Hn.out hl z).mono ?_
  rintro e w1 ⟨rfl, ho, hg⟩
  go_wp2_with fail
  exact bodyPost_ret (results_none rfl _ _ _) rfl ⟨rfl, ho, hg⟩
set_option maxHeartbeats 800000 in
theorem reverse_any (g n cap base : Nat) (l : List Int) (w : World) (h : OwnI w base (.slice (some ⟨g, 0, none⟩) n cap) l) (hn : n = l.length) (hl : n ≤ 1000) :
    Calls Try.prog 149 #[.slice (some ⟨g, 0, none⟩) n cap] w (SortOut w base (.slice (some ⟨g, 0, none⟩) n cap) l.reverse) := by
  have Hn := Lib.hid hn
  clear hn
  go_enter Try.func149, Try.ntmps149
  go_wp2_with fail
  go_loopg [2, 3] (n + 1) (fun mm i j wr => ∃ (k : Nat) (m : List Int), k ≤ n ∧ mm = n + 1 - k ∧ i = .int .i64 k ∧ j = .int .i64 ((n : Int) - 1 - k) ∧ Hid (RevTo l m k) ∧ Hid (OwnI wr base (.slice (some ⟨g, 0, none⟩) n cap) m) ∧ w.grownBy wr (some g))
  case atStart => exact ⟨0, l, Nat.zero_le _, rfl, rfl, by go_num, RevTo.zero l, h, gb_refl _ _⟩
  case round =>
    clear h
    obtain ⟨k, m, hk, rfl, rfl, rfl, HR, HO, hg⟩ := hrel
    have hml : n = m.length := by rw [HR.out.1]; exact Hn.out
    by_cases hlt : (k : Int) < (n : Int) - 1 - k
    · obtain ⟨q, hq⟩ : ∃ q : Nat, q = n - 1 - k := ⟨_, rfl⟩
      have hqi : ((n : Int) - 1 - k) = (q : Int) := by omega
      rw [hqi] at hlt ⊢
      obtain ⟨x, hx⟩ : ∃ x, m[k]? = some x := ⟨_, List.getElem?_eq_getElem (by omega)⟩
      obtain ⟨y, hy⟩ : ∃ y, m[q]? = some y := ⟨_, List.getElem?_eq_getElem (by omega)⟩
      obtain ⟨c0, f0, -, -⟩ := HO.out.cell hx
      obtain ⟨c1, f1, -, -⟩ := HO.out.cell hy
      have hR2 := HR.out.step (by rw [← Hn.out]; omega) hx (by rw [← Hn.out, ← hq]; exact hy)
      rw [← Hn.out, ← hq] at hR2
      have HR2 := Lib.hid hR2
      have HO3 := Lib.hid ((HO.out.set_ hml k y).set_ (by rw [List.length_set]; exact hml) q x)
      have hg3 : w.grownBy ((wr.setCell ⟨g, k, none⟩ (.int .i64 y)).setCell ⟨g, q, none⟩ (.int .i64 x)) (some g) := gb_set (p := ⟨g, q, none⟩) (gb_set (p := ⟨g, k, none⟩) hg (.inr rfl) _) (.inr rfl) _
      have hkq : k < q := by omega
      have hqn : q < n := by omega
      have Hq := Lib.hid hqi
      clear hR2 hq hqi hx hy hml HR HO hg
      go_wp2_with fail
      go_region
      all_goals
        go_wp2_with fail
        go_roundg (n + 1 - (k + 1))
        case measure => omega
        case rel => exact ⟨k + 1, _, by omega, rfl, by go_num, by rw [← Hq.out]; go_num, HR2, HO3, gb_drew hg3⟩
    · have he := HR.out.done (by rw [← Hn.out]; omega)
      have HO2 := HO.out
      rw [he] at HO2
      have HO2 := Lib.hid HO2
      clear he hml HO HR
      go_wp2_with fail
      exact bodyPost_ret (results_none rfl _ _ _) rfl ⟨rfl, HO2.out, hg⟩
end Go.Proofs.Ytjlnhijabdkagaa
