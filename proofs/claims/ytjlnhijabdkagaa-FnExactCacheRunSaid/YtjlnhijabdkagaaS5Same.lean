/- Walks: comparisons of rows and of lists of rows (written by gen_same.py). -/
import Derived.Test.YtjlnhijabdkagaaA6Lists
import Derived.Test.YtjlnhijabdkagaaI1Costs
namespace Go.Proofs.Ytjlnhijabdkagaa
open Go.RowKit

theorem take_same {α : Type} {a b : List α} {k : Nat} {x : α} (h : a.take k = b.take k) (hx : a[k]? = some x) (hy : b[k]? = some x) : a.take (k + 1) = b.take (k + 1) := by
  obtain ⟨h1, rfl⟩ := List.getElem?_eq_some_iff.1 hx
  obtain ⟨h2, h3⟩ := List.getElem?_eq_some_iff.1 hy
  rw [List.take_succ_eq_append_getElem h1, List.take_succ_eq_append_getElem h2, h, h3]
set_option maxRecDepth 20000 in
theorem l13Same_b (va vb : Value) (a b : List Int) (w : World) (ha : RI w va a) (hb : RI w vb b) {c : Bool} (hc : decide (a = b) = c) :
    Calls Try.prog 85 #[va, vb] w fun e w' => e = .returned (.bool c) ∧ w.grownBy w' none := by
  obtain ⟨A, n, d, rfl, _, hn⟩ := ha.form'
  obtain ⟨B, m, d', rfl, _, hm⟩ := hb.form'
  have hle := ha.le
  have Hn := Lib.hid hn
  have Hm := Lib.hid hm
  have hnx : n ≤ 9223372036854775807 := by omega
  by_cases hnm : n = m
  · subst hnm
    have Hc := Lib.hid hc
    clear hn hm hc hle
    go_enter Try.func85, Try.ntmps85
    go_wp2_with fail
    go_loopg [5] (n + 1) (fun mm i wr => ∃ k : Nat, k ≤ n ∧ mm = n + 1 - k ∧ i = .int .i64 k ∧ Hid (a.take k = b.take k) ∧ w.grownBy wr none)
    case atStart => exact ⟨0, Nat.zero_le _, rfl, rfl, by show _ = _; simp, gb_refl _ _⟩
    case round =>
      obtain ⟨k, hk, rfl, rfl, Hk, hg⟩ := hrel
      by_cases hlt : k < n
      · obtain ⟨g, o, x, rfl, hx, c0⟩ := (ha.new hg).at_ hlt
        obtain ⟨g', o', y, rfl, hy, c1⟩ := (hb.new hg).at_ hlt
        have Hx := Lib.hid hx
        have Hy := Lib.hid hy
        clear hx hy
        by_cases hxy : x = y
        · subst hxy
          have Hs := Lib.hid (take_same Hk.out Hx.out Hy.out)
          clear Hk
          go_wp2_with fail
          go_quiet (fail)
          go_wp2_with fail
          go_roundg (n + 1 - (k + 1))
          case measure => omega
          case rel => exact ⟨k + 1, by omega, rfl, by go_num, Hs, gb_drewN hg _⟩
        · have Hr : Hid (c = false) := by
            show _ = _
            rw [← Hc.out, decide_eq_false_iff_not]
            rintro rfl
            exact hxy (Option.some.inj (Hx.out.symm.trans Hy.out))
          have hb1 : (x != y) = true := by simpa using hxy
          go_wp2_with fail
          go_quiet (fail)
          go_wp2_with fail
          go_ret
          exact ⟨by rw [Hr.out]; rfl, gb_drewN hg _⟩
      · obtain rfl : k = n := by omega
        have Hr : Hid (c = true) := by
          show _ = _
          rw [← Hc.out, decide_eq_true_eq]
          have := Hk.out
          rwa [List.take_of_length_le (by rw [← Hn.out]; exact Nat.le_refl _), List.take_of_length_le (by rw [← Hm.out]; exact Nat.le_refl _)] at this
        clear Hk
        go_wp2_with fail
        go_ret
        exact ⟨by rw [Hr.out]; rfl, hg⟩
  · have Hr : Hid (c = false) := by
      show _ = _
      rw [← hc, decide_eq_false_iff_not]
      rintro rfl
      exact hnm (hn.trans hm.symm)
    have hb1 : ((n : Int) != (m : Int)) = true := by simp; omega
    clear hn hm hc hle
    go_enter Try.func85, Try.ntmps85
    go_wp2_with fail
    go_ret
    exact ⟨by rw [Hr.out]; rfl, gb_refl _ _⟩
set_option maxRecDepth 20000 in
theorem sEqual_b (va vb : Value) (a b : List Int) (w : World) (ha : RI w va a) (hb : RI w vb b) {c : Bool} (hc : decide (a = b) = c) :
    Calls Try.prog 117 #[va, vb] w fun e w' => e = .returned (.bool c) ∧ w.grownBy w' none := by
  obtain ⟨A, n, d, rfl, _, hn⟩ := ha.form'
  obtain ⟨B, m, d', rfl, _, hm⟩ := hb.form'
  have hle := ha.le
  have Hn := Lib.hid hn
  have Hm := Lib.hid hm
  have hnx : n ≤ 9223372036854775807 := by omega
  by_cases hnm : n = m
  · subst hnm
    have Hc := Lib.hid hc
    clear hn hm hc hle
    go_enter Try.func117, Try.ntmps117
    go_wp2_with fail
    go_loopg [13] (n + 1) (fun mm i wr => ∃ k : Nat, k ≤ n ∧ mm = n + 1 - k ∧ i = .int .i64 k ∧ Hid (a.take k = b.take k) ∧ w.grownBy wr none)
    case atStart => exact ⟨0, Nat.zero_le _, rfl, rfl, by show _ = _; simp, gb_refl _ _⟩
    case round =>
      obtain ⟨k, hk, rfl, rfl, Hk, hg⟩ := hrel
      by_cases hlt : k < n
      · obtain ⟨g, o, x, rfl, hx, c0⟩ := (ha.new hg).at_ hlt
        obtain ⟨g', o', y, rfl, hy, c1⟩ := (hb.new hg).at_ hlt
        have Hx := Lib.hid hx
        have Hy := Lib.hid hy
        clear hx hy
        by_cases hxy : x = y
        · subst hxy
          have Hs := Lib.hid (take_same Hk.out Hx.out Hy.out)
          clear Hk
          go_wp2_with fail
          go_quiet (fail)
          go_wp2_with fail
          go_roundg (n + 1 - (k + 1))
          case measure => omega
          case rel => exact ⟨k + 1, by omega, rfl, by go_num, Hs, gb_drewN hg _⟩
        · have Hr : Hid (c = false) := by
            show _ = _
            rw [← Hc.out, decide_eq_false_iff_not]
            rintro rfl
            exact hxy (Option.some.inj (Hx.out.symm.trans Hy.out))
          have hb1 : (x != y) = true := by simpa using hxy
          go_wp2_with fail
          go_quiet (fail)
          go_wp2_with fail
          go_ret
          exact ⟨by rw [Hr.out]; rfl, gb_drewN hg _⟩
      · obtain rfl : k = n := by omega
        have Hr : Hid (c = true) := by
          show _ = _
          rw [← Hc.out, decide_eq_true_eq]
          have := Hk.out
          rwa [List.take_of_length_le (by rw [← Hn.out]; exact Nat.le_refl _), List.take_of_length_le (by rw [← Hm.out]; exact Nat.le_refl _)] at this
        clear Hk
        go_wp2_with fail
        go_ret
        exact ⟨by rw [Hr.out]; rfl, hg⟩
  · have Hr : Hid (c = false) := by
      show _ = _
      rw [← hc, decide_eq_false_iff_not]
      rintro rfl
      exact hnm (hn.trans hm.symm)
    have hb1 : ((n : Int) != (m : Int)) = true := by simp; omega
    clear hn hm hc hle
    go_enter Try.func117, Try.ntmps117
    go_wp2_with fail
    go_ret
    exact ⟨by rw [Hr.out]; rfl, gb_refl _ _⟩
set_option maxRecDepth 20000 in
theorem sameRow_b (va vb : Value) (a b : List Int) (w : World) (ha : RI w va a) (hb : RI w vb b) {c : Bool} (hc : decide (a = b) = c) :
    Calls Try.prog 30 #[va, vb] w fun e w' => e = .returned (.bool c) ∧ w.grownBy w' none := by
  obtain ⟨A, n, d, rfl, _, hn⟩ := ha.form'
  obtain ⟨B, m, d', rfl, _, hm⟩ := hb.form'
  have hle := ha.le
  have Hn := Lib.hid hn
  have Hm := Lib.hid hm
  have hnx : n ≤ 9223372036854775807 := by omega
  by_cases hnm : n = m
  · subst hnm
    have Hc := Lib.hid hc
    clear hn hm hc hle
    go_enter Try.func30, Try.ntmps30
    go_wp2_with fail
    go_loopg [5] (n + 1) (fun mm i wr => ∃ k : Nat, k ≤ n ∧ mm = n + 1 - k ∧ i = .int .i64 k ∧ Hid (a.take k = b.take k) ∧ w.grownBy wr none)
    case atStart => exact ⟨0, Nat.zero_le _, rfl, rfl, by show _ = _; simp, gb_refl _ _⟩
    case round =>
      obtain ⟨k, hk, rfl, rfl, Hk, hg⟩ := hrel
      by_cases hlt : k < n
      · obtain ⟨g, o, x, rfl, hx, c0⟩ := (ha.new hg).at_ hlt
        obtain ⟨g', o', y, rfl, hy, c1⟩ := (hb.new hg).at_ hlt
        have Hx := Lib.hid hx
        have Hy := Lib.hid hy
        clear hx hy
        by_cases hxy : x = y
        · subst hxy
          have Hs := Lib.hid (take_same Hk.out Hx.out Hy.out)
          clear Hk
          go_wp2_with fail
          go_quiet (fail)
          go_wp2_with fail
          go_roundg (n + 1 - (k + 1))
          case measure => omega
          case rel => exact ⟨k + 1, by omega, rfl, by go_num, Hs, gb_drewN hg _⟩
        · have Hr : Hid (c = false) := by
            show _ = _
            rw [← Hc.out, decide_eq_false_iff_not]
            rintro rfl
            exact hxy (Option.some.inj (Hx.out.symm.trans Hy.out))
          have hb1 : (x != y) = true := by simpa using hxy
          go_wp2_with fail
          go_quiet (fail)
          go_wp2_with fail
          go_ret
          exact ⟨by rw [Hr.out]; rfl, gb_drewN hg _⟩
      · obtain rfl : k = n := by omega
        have Hr : Hid (c = true) := by
          show _ = _
          rw [← Hc.out, decide_eq_true_eq]
          have := Hk.out
          rwa [List.take_of_length_le (by rw [← Hn.out]; exact Nat.le_refl _), List.take_of_length_le (by rw [← Hm.out]; exact Nat.le_refl _)] at this
        clear Hk
        go_wp2_with fail
        go_ret
        exact ⟨by rw [Hr.out]; rfl, hg⟩
  · have Hr : Hid (c = false) := by
      show _ = _
      rw [← hc, decide_eq_false_iff_not]
      rintro rfl
      exact hnm (hn.trans hm.symm)
    have hb1 : ((n : Int) != (m : Int)) = true := by simp; omega
    clear hn hm hc hle
    go_enter Try.func30, Try.ntmps30
    go_wp2_with fail
    go_ret
    exact ⟨by rw [Hr.out]; rfl, gb_refl _ _⟩
set_option maxRecDepth 20000 in
theorem l33Same_b (va vb : Value) (a b : List (List Int)) (w : World) (ha : RL w va a) (hb : RL w vb b) {c : Bool} (hc : decide (a = b) = c) :
    Calls Try.prog 125 #[va, vb] w fun e w' => e = .returned (.bool c) ∧ w.grownBy w' none := by
  obtain ⟨A, n, d, rfl, _, hn, hnx⟩ := ha.form'
  obtain ⟨B, m, d', rfl, _, hm, hmx⟩ := hb.form'
  have Hn := Lib.hid hn
  have Hm := Lib.hid hm
  by_cases hnm : n = m
  · subst hnm
    have Hc := Lib.hid hc
    clear hn hm hc
    go_enter Try.func125, Try.ntmps125
    go_wp2_with fail
    go_loopg [5] (n + 1) (fun mm i wr => ∃ k : Nat, k ≤ n ∧ mm = n + 1 - k ∧ i = .int .i64 k ∧ Hid (a.take k = b.take k) ∧ w.grownBy wr none)
    case atStart => exact ⟨0, Nat.zero_le _, rfl, rfl, by show _ = _; simp, gb_refl _ _⟩
    case round =>
      obtain ⟨k, hk, rfl, rfl, Hk, hg⟩ := hrel
      by_cases hlt : k < n
      · obtain ⟨g, o, x, B1, m1, e1, rfl, hx, c0, hx1, -, -, -⟩ := (ha.new hg).at_ hlt
        obtain ⟨g', o', y, B2, m2, e2, rfl, hy, c1, hy1, -, -, -⟩ := (hb.new hg).at_ hlt
        have Hx := Lib.hid hx
        have Hy := Lib.hid hy
        clear hx hy
        by_cases hxy : x = y
        · have Hq : Hid (decide (x = y) = true) := by show _ = _; simpa using hxy
          have Hs := Lib.hid (take_same Hk.out Hx.out (hxy ▸ Hy.out))
          clear Hk hxy
          go_wp2_with fail
          go_region_held3 (fun w' => w'.cell? ⟨g, o + k, none⟩ = some (.slice B1 m1 e1) ∧ w'.cell? ⟨g', o' + k, none⟩ = some (.slice B2 m2 e2)) (go_keep)
            (first | (go_at_call 85; refine (l13Same_b _ _ x y _ (by exact hx1) (by exact hy1) Hq.out).mono ?_; rintro e w' ⟨rfl, hg'⟩; have k0 := hg'.cell (by exact c0) (by simp); have k1 := hg'.cell (by exact c1) (by simp)))
          go_wp2_with fail
          go_roundg (n + 1 - (k + 1))
          case measure => omega
          case rel => exact ⟨k + 1, by omega, rfl, by go_num, Hs, gb_trans (gb_drew hg) (by assumption)⟩
        · have Hq : Hid (decide (x = y) = false) := by show _ = _; simpa using hxy
          have Hr : Hid (c = false) := by
            show _ = _
            rw [← Hc.out, decide_eq_false_iff_not]
            rintro rfl
            exact hxy (Option.some.inj (Hx.out.symm.trans Hy.out))
          clear hxy
          go_wp2_with fail
          go_region_held3 (fun w' => w'.cell? ⟨g, o + k, none⟩ = some (.slice B1 m1 e1) ∧ w'.cell? ⟨g', o' + k, none⟩ = some (.slice B2 m2 e2)) (go_keep)
            (first | (go_at_call 85; refine (l13Same_b _ _ x y _ (by exact hx1) (by exact hy1) Hq.out).mono ?_; rintro e w' ⟨rfl, hg'⟩; have k0 := hg'.cell (by exact c0) (by simp); have k1 := hg'.cell (by exact c1) (by simp)))
          go_wp2_with fail
          go_ret
          exact ⟨by rw [Hr.out]; rfl, gb_trans (gb_drew hg) (by assumption)⟩
      · obtain rfl : k = n := by omega
        have Hr : Hid (c = true) := by
          show _ = _
          rw [← Hc.out, decide_eq_true_eq]
          have := Hk.out
          rwa [List.take_of_length_le (by rw [← Hn.out]; exact Nat.le_refl _), List.take_of_length_le (by rw [← Hm.out]; exact Nat.le_refl _)] at this
        clear Hk
        go_wp2_with fail
        go_ret
        exact ⟨by rw [Hr.out]; rfl, hg⟩
  · have Hr : Hid (c = false) := by
      show _ = _
      rw [← hc, decide_eq_false_iff_not]
      rintro rfl
      exact hnm (hn.trans hm.symm)
    have hb1 : ((n : Int) != (m : Int)) = true := by simp; omega
    clear hn hm hc
    go_enter Try.func125, Try.ntmps125
    go_wp2_with fail
    go_ret
    exact ⟨by rw [Hr.out]; rfl, gb_refl _ _⟩
set_option maxRecDepth 20000 in
theorem sameRows_b (va vb : Value) (a b : List (List Int)) (w : World) (ha : RL w va a) (hb : RL w vb b) {c : Bool} (hc : decide (a = b) = c) :
    Calls Try.prog 60 #[va, vb] w fun e w' => e = .returned (.bool c) ∧ w.grownBy w' none := by
  obtain ⟨A, n, d, rfl, _, hn, hnx⟩ := ha.form'
  obtain ⟨B, m, d', rfl, _, hm, hmx⟩ := hb.form'
  have Hn := Lib.hid hn
  have Hm := Lib.hid hm
  by_cases hnm : n = m
  · subst hnm
    have Hc := Lib.hid hc
    clear hn hm hc
    go_enter Try.func60, Try.ntmps60
    go_wp2_with fail
    go_loopg [5] (n + 1) (fun mm i wr => ∃ k : Nat, k ≤ n ∧ mm = n + 1 - k ∧ i = .int .i64 k ∧ Hid (a.take k = b.take k) ∧ w.grownBy wr none)
    case atStart => exact ⟨0, Nat.zero_le _, rfl, rfl, by show _ = _; simp, gb_refl _ _⟩
    case round =>
      obtain ⟨k, hk, rfl, rfl, Hk, hg⟩ := hrel
      by_cases hlt : k < n
      · obtain ⟨g, o, x, B1, m1, e1, rfl, hx, c0, hx1, -, -, -⟩ := (ha.new hg).at_ hlt
        obtain ⟨g', o', y, B2, m2, e2, rfl, hy, c1, hy1, -, -, -⟩ := (hb.new hg).at_ hlt
        have Hx := Lib.hid hx
        have Hy := Lib.hid hy
        clear hx hy
        by_cases hxy : x = y
        · have Hq : Hid (decide (x = y) = true) := by show _ = _; simpa using hxy
          have Hs := Lib.hid (take_same Hk.out Hx.out (hxy ▸ Hy.out))
          clear Hk hxy
          go_wp2_with fail
          go_region_held3 (fun w' => w'.cell? ⟨g, o + k, none⟩ = some (.slice B1 m1 e1) ∧ w'.cell? ⟨g', o' + k, none⟩ = some (.slice B2 m2 e2)) (go_keep)
            (first | (go_at_call 30; refine (sameRow_b _ _ x y _ (by exact hx1) (by exact hy1) Hq.out).mono ?_; rintro e w' ⟨rfl, hg'⟩; have k0 := hg'.cell (by exact c0) (by simp); have k1 := hg'.cell (by exact c1) (by simp)))
          go_wp2_with fail
          go_roundg (n + 1 - (k + 1))
          case measure => omega
          case rel => exact ⟨k + 1, by omega, rfl, by go_num, Hs, gb_trans (gb_drew hg) (by assumption)⟩
        · have Hq : Hid (decide (x = y) = false) := by show _ = _; simpa using hxy
          have Hr : Hid (c = false) := by
            show _ = _
            rw [← Hc.out, decide_eq_false_iff_not]
            rintro rfl
            exact hxy (Option.some.inj (Hx.out.symm.trans Hy.out))
          clear hxy
          go_wp2_with fail
          go_region_held3 (fun w' => w'.cell? ⟨g, o + k, none⟩ = some (.slice B1 m1 e1) ∧ w'.cell? ⟨g', o' + k, none⟩ = some (.slice B2 m2 e2)) (go_keep)
            (first | (go_at_call 30; refine (sameRow_b _ _ x y _ (by exact hx1) (by exact hy1) Hq.out).mono ?_; rintro e w' ⟨rfl, hg'⟩; have k0 := hg'.cell (by exact c0) (by simp); have k1 := hg'.cell (by exact c1) (by simp)))
          go_wp2_with fail
          go_ret
          exact ⟨by rw [Hr.out]; rfl, gb_trans (gb_drew hg) (by assumption)⟩
      · obtain rfl : k = n := by omega
        have Hr : Hid (c = true) := by
          show _ = _
          rw [← Hc.out, decide_eq_true_eq]
          have := Hk.out
          rwa [List.take_of_length_le (by rw [← Hn.out]; exact Nat.le_refl _), List.take_of_length_le (by rw [← Hm.out]; exact Nat.le_refl _)] at this
        clear Hk
        go_wp2_with fail
        go_ret
        exact ⟨by rw [Hr.out]; rfl, hg⟩
  · have Hr : Hid (c = false) := by
      show _ = _
      rw [← hc, decide_eq_false_iff_not]
      rintro rfl
      exact hnm (hn.trans hm.symm)
    have hb1 : ((n : Int) != (m : Int)) = true := by simp; omega
    clear hn hm hc
    go_enter Try.func60, Try.ntmps60
    go_wp2_with fail
    go_ret
    exact ⟨by rw [Hr.out]; rfl, gb_refl _ _⟩
theorem eqFn_b (va vb : Value) (a b : List Int) (w : World) (ha : RI w va a) (hb : RI w vb b) {c : Bool} (hc : decide (a = b) = c) :
    Calls Try.prog 143 #[va, vb] w fun e w' => e = .returned (.bool c) ∧ w.grownBy w' none := by
  have hra := ha
  have hrb := hb
  obtain ⟨A, n, d, rfl⟩ := ha.val
  obtain ⟨B, m, d', rfl⟩ := hb.val
  have Hc := Lib.hid hc
  clear hc
  go_enter Try.func143, Try.ntmps143
  go_wp2_with fail
  refine (sEqual_b _ _ a b _ hra hrb Hc.out).mono ?_
  rintro e w' ⟨rfl, hg⟩
  go_wp2_with fail
  go_ret
  exact ⟨rfl, hg⟩
set_option maxRecDepth 20000 in
theorem eqFunc_b (va vb : Value) (a b : List (List Int)) (w : World) (ha : RL w va a) (hb : RL w vb b) {c : Bool} (hc : decide (a = b) = c) :
    Calls Try.prog 142 #[va, vb, .func (.func 143) #[] #[]] w fun e w' => e = .returned (.bool c) ∧ w.grownBy w' none := by
  obtain ⟨A, n, d, rfl, _, hn, hnx⟩ := ha.form'
  obtain ⟨B, m, d', rfl, _, hm, hmx⟩ := hb.form'
  have Hn := Lib.hid hn
  have Hm := Lib.hid hm
  by_cases hnm : n = m
  · subst hnm
    have Hc := Lib.hid hc
    clear hn hm hc
    go_enter Try.func142, Try.ntmps142
    go_wp2_with fail
    go_loopg [17] (n + 1) (fun mm i wr => ∃ k : Nat, k ≤ n ∧ mm = n + 1 - k ∧ i = .int .i64 k ∧ Hid (a.take k = b.take k) ∧ w.grownBy wr none)
    case atStart => exact ⟨0, Nat.zero_le _, rfl, rfl, by show _ = _; simp, gb_refl _ _⟩
    case round =>
      obtain ⟨k, hk, rfl, rfl, Hk, hg⟩ := hrel
      by_cases hlt : k < n
      · obtain ⟨g, o, x, B1, m1, e1, rfl, hx, c0, hx1, -, -, -⟩ := (ha.new hg).at_ hlt
        obtain ⟨g', o', y, B2, m2, e2, rfl, hy, c1, hy1, -, -, -⟩ := (hb.new hg).at_ hlt
        have Hx := Lib.hid hx
        have Hy := Lib.hid hy
        clear hx hy
        by_cases hxy : x = y
        · have Hq : Hid (decide (x = y) = true) := by show _ = _; simpa using hxy
          have Hs := Lib.hid (take_same Hk.out Hx.out (hxy ▸ Hy.out))
          clear Hk hxy
          go_wp2_with fail
          refine (eqFn_b _ _ x y _ (by exact hx1) (by exact hy1) Hq.out).mono ?_
          rintro e w' ⟨rfl, hg'⟩
          go_wp2_with fail
          go_roundg (n + 1 - (k + 1))
          case measure => omega
          case rel => exact ⟨k + 1, by omega, rfl, by go_num, Hs, gb_trans hg hg'⟩
        · have Hq : Hid (decide (x = y) = false) := by show _ = _; simpa using hxy
          have Hr : Hid (c = false) := by
            show _ = _
            rw [← Hc.out, decide_eq_false_iff_not]
            rintro rfl
            exact hxy (Option.some.inj (Hx.out.symm.trans Hy.out))
          clear hxy
          go_wp2_with fail
          refine (eqFn_b _ _ x y _ (by exact hx1) (by exact hy1) Hq.out).mono ?_
          rintro e w' ⟨rfl, hg'⟩
          go_wp2_with fail
          go_ret
          exact ⟨by rw [Hr.out]; rfl, gb_trans hg hg'⟩
      · obtain rfl : k = n := by omega
        have Hr : Hid (c = true) := by
          show _ = _
          rw [← Hc.out, decide_eq_true_eq]
          have := Hk.out
          rwa [List.take_of_length_le (by rw [← Hn.out]; exact Nat.le_refl _), List.take_of_length_le (by rw [← Hm.out]; exact Nat.le_refl _)] at this
        clear Hk
        go_wp2_with fail
        go_ret
        exact ⟨by rw [Hr.out]; rfl, hg⟩
  · have Hr : Hid (c = false) := by
      show _ = _
      rw [← hc, decide_eq_false_iff_not]
      rintro rfl
      exact hnm (hn.trans hm.symm)
    have hb1 : ((n : Int) != (m : Int)) = true := by simp; omega
    clear hn hm hc
    go_enter Try.func142, Try.ntmps142
    go_wp2_with fail
    go_ret
    exact ⟨by rw [Hr.out]; rfl, gb_refl _ _⟩
theorem sameLists_b (va vb : Value) (a b : List (List Int)) (w : World) (ha : RL w va a) (hb : RL w vb b) {c : Bool} (hc : decide (a = b) = c) :
    Calls Try.prog 118 #[va, vb] w fun e w' => e = .returned (.bool c) ∧ w.grownBy w' none := by
  obtain ⟨A, n, d, rfl⟩ := ha.val
  obtain ⟨B, m, d', rfl⟩ := hb.val
  have Hc := Lib.hid hc
  clear hc
  go_enter Try.func118, Try.ntmps118
  go_wp2_with fail
  refine (eqFunc_b _ _ a b _ ha hb Hc.out).mono ?_
  rintro e w' ⟨rfl, hg⟩
  go_wp2_with fail
  go_ret
  exact ⟨rfl, hg⟩
end Go.Proofs.Ytjlnhijabdkagaa
