/- Walks: impl.levelList. · Walks: spec.DrawCountKinds, spec.DrawCountWide, laws.sameRow, impl.CostKind, impl.CostAll. · Walks: comparisons of rows and of lists of rows (written by gen_same.py). -/
import Derived.Test.YtihobnheficpjaaGreatM10
import Derived.Test.YtihobnheficpjaaGreatM11
import Derived.Test.YtihobnheficpjaaGreatM13
import Derived.Test.YtihobnheficpjaaGreatM01
import Derived.Test.YtihobnheficpjaaGreatM06
import Derived.BigRegion
import Derived.RegionTactic
import Derived.Deep.LoopGhost
import Derived.Test.YtihobnheficpjaaGreatM05
namespace Go.Proofs.YtihobnheficpjaaGreat
open Go.RowKit

theorem OwnI.made {w : World} {base n : Nat} {v : Value} (h : w.ownsRow base 3 1 v n (madeCells #[Value.int .i64 0] n).toList) : OwnI w base v (List.replicate n 0) := by
  unfold OwnI
  have e : (madeCells #[Value.int .i64 0] n).toList = (List.replicate n (0 : Int)).map (.int .i64) := by
    apply List.ext_getElem?
    intro j
    by_cases hj : j < n
    · simp [madeCells, hj, Nat.mod_one]
    · simp [madeCells, hj]
  rw [List.length_replicate, ← e]
  exact h
theorem OwnI.apart_ {w w' : World} {base : Nat} {v : Value} {l : List Int} {row : Option Nat} (h : OwnI w base v l) (hg : w.grownBy w' row) (hr : v.ownBlock = none ∨ v.ownBlock ≠ row) : OwnI w' base v l := World.ownsRow.kept h hg hr
theorem OwnI.cell {w : World} {base g n c : Nat} {l : List Int} (h : OwnI w base (.slice (some ⟨g, 0, none⟩) n c) l) {k : Nat} {x : Int} (hx : l[k]? = some x) : w.cell? ⟨g, k, none⟩ = some (.int .i64 x) ∧ w.frozen? ⟨g, k, none⟩ = false ∧ base ≤ g ∧ ∃ cs, Blk w g 3 cs := by
  obtain ⟨g', cap', cur, he, _, hbg, hbk, hcs⟩ := h.form (by have := (List.getElem?_eq_some_iff.1 hx).1; omega)
  obtain rfl : g = g' := slice_block he
  exact ⟨hcs k x hx, hbk.frozen k, hbg, cur, hbk⟩
end Go.Proofs.YtihobnheficpjaaGreat
namespace Go.Proofs.YtihobnheficpjaaGreat
open Go.RowKit

/-- Two rows that read alike are the same. -/
theorem sameRow_any (v v' : Value) (l : List Int) (w : World) (h : RI w v l) (h' : RI w v' l) : Calls Tryz.prog 22 #[v, v'] w fun e w' => e = .returned (.bool true) ∧ w.grownBy w' none := by
  obtain ⟨A, n, c, rfl, h2, h3⟩ := h.form'
  obtain ⟨A', n', c', rfl, h2', h3'⟩ := h'.form'
  have hle := h.le
  obtain rfl : n = n' := by omega
  have hn : n ≤ 9223372036854775807 := by omega
  clear h3 h3' hle
  go_enter Tryz.func22, Tryz.ntmps22
  go_wp2_with fail
  go_loopw [5] (fun i wr => ∃ k : Nat, k ≤ n ∧ i = .int .i64 k ∧ w.grownBy wr none) (fun i _ => n - (intOf i).toNat)
  case atStart => exact ⟨0, Nat.zero_le _, rfl, gb_refl _ _⟩
  case round =>
    obtain ⟨k, hk, rfl, hg⟩ := hrel
    have hw := h.new hg
    have hw' := h'.new hg
    by_cases hlt : k < n
    · obtain ⟨g, o, x, rfl, hx, c0⟩ := hw.at_ hlt
      obtain ⟨g', o', x', rfl, hx', c1⟩ := hw'.at_ hlt
      obtain rfl : x = x' := by rw [hx] at hx'; injection hx'
      clear hx hx'
      go_wp2_with fail
      go_quiet (fail)
      go_wp2_with fail
      go_roundw
      case rel => exact ⟨k + 1, by omega, by go_num, gb_drewN hg _⟩
      case measure => simp [intOf]; omega
    · go_wp2_with fail
      go_ret
      exact ⟨rfl, hg⟩
end Go.Proofs.YtihobnheficpjaaGreat
namespace Go.Proofs.YtihobnheficpjaaGreat
open Go.RowKit

theorem take_same {α : Type} {a b : List α} {k : Nat} {x : α} (h : a.take k = b.take k) (hx : a[k]? = some x) (hy : b[k]? = some x) : a.take (k + 1) = b.take (k + 1) := by
  obtain ⟨h1, rfl⟩ := List.getElem?_eq_some_iff.1 hx
  obtain ⟨h2, h3⟩ := List.getElem?_eq_some_iff.1 hy
  rw [List.take_succ_eq_append_getElem h1, List.take_succ_eq_append_getElem h2, h, h3]
set_option maxRecDepth 20000 in
theorem l13Same_b (va vb : Value) (a b : List Int) (w : World) (ha : RI w va a) (hb : RI w vb b) {c : Bool} (hc : decide (a = b) = c) :
    Calls Tryz.prog 43 #[va, vb] w fun e w' => e = .returned (.bool c) ∧ w.grownBy w' none := by
  obtain ⟨A, n, d, rfl, _, hn⟩ := ha.form'
  obtain ⟨B, m, d', rfl, _, hm⟩ := hb.form'
  have hle := ha.le
  have Hn := Lib.hid hn
  have Hm := Lib.hid hm
  have hnx : n ≤ 9223372036854775807 := by omega
  by_cases hnm : n = m
  · subst hnm
    have Hc := Lib.hid hc
    clear hn hm hc hle
    go_enter Tryz.func43, Tryz.ntmps43
    go_wp2_with fail
    go_loopg [5] (n + 1) (fun mm i wr => ∃ k : Nat, k ≤ n ∧ mm = n + 1 - k ∧ i = .int .i64 k ∧ Hid (a.take k = b.take k) ∧ w.grownBy wr none)
    case atStart => exact ⟨0, Nat.zero_le _, rfl, rfl, by show _ = _; simp, gb_refl _ _⟩
    case round =>
      obtain ⟨k, hk, rfl, rfl, Hk, hg⟩ := hrel
      by_cases hlt : k < n
      · obtain ⟨g, o, x, rfl, hx, c0⟩ := (ha.new hg).at_ hlt
        obtain ⟨g', o', y, rfl, hy, c1⟩ := (hb.new hg).at_ hlt
        have Hx := Lib.hid hx
        have Hy := Lib.hid hy
        clear hx hy
        by_cases hxy : x = y
        · subst hxy
          have Hs := Lib.hid (take_same Hk.out Hx.out Hy.out)
          clear Hk
          go_wp2_with fail
          go_quiet (fail)
          go_wp2_with fail
          go_roundg (n + 1 - (k + 1))
          case measure => omega
          case rel => exact ⟨k + 1, by omega, rfl, by go_num, Hs, gb_drewN hg _⟩
        · have Hr : Hid (c = false) := by
            show _ = _
            rw [← Hc.out, decide_eq_false_iff_not]
            rintro rfl
            exact hxy (Option.some.inj (Hx.out.symm.trans Hy.out))
          have hb1 : (x != y) = true := by simpa using hxy
          go_wp2_with fail
          go_quiet (fail)
          go_wp2_with fail
          go_ret
          exact ⟨by rw [Hr.out]; rfl, gb_drewN hg _⟩
      · obtain rfl : k = n := by omega
        have Hr : Hid (c = true) := by
          show _ = _
          rw [← Hc.out, decide_eq_true_eq]
          have := Hk.out
          rwa [List.take_of_length_le (by rw [← Hn.out]; exact Nat.le_refl _), List.take_of_length_le (by rw [← Hm.out]; exact Nat.le_refl _)] at this
        clear Hk
        go_wp2_with fail
        go_ret
        exact ⟨by rw [Hr.out]; rfl, hg⟩
  · have Hr : Hid (c = false) := by
      show _ = _
      rw [← hc, decide_eq_false_iff_not]
      rintro rfl
      exact hnm (hn.trans hm.symm)
    have hb1 : ((n : Int) != (m : Int)) = true := by simp; omega
    clear hn hm hc hle
    go_enter Tryz.func43, Tryz.ntmps43
    go_wp2_with fail
    go_ret
    exact ⟨by rw [Hr.out]; rfl, gb_refl _ _⟩
set_option maxRecDepth 20000 in
theorem sEqual_b (va vb : Value) (a b : List Int) (w : World) (ha : RI w va a) (hb : RI w vb b) {c : Bool} (hc : decide (a = b) = c) :
    Calls Tryz.prog 54 #[va, vb] w fun e w' => e = .returned (.bool c) ∧ w.grownBy w' none := by
  obtain ⟨A, n, d, rfl, _, hn⟩ := ha.form'
  obtain ⟨B, m, d', rfl, _, hm⟩ := hb.form'
  have hle := ha.le
  have Hn := Lib.hid hn
  have Hm := Lib.hid hm
  have hnx : n ≤ 9223372036854775807 := by omega
  by_cases hnm : n = m
  · subst hnm
    have Hc := Lib.hid hc
    clear hn hm hc hle
    go_enter Tryz.func54, Tryz.ntmps54
    go_wp2_with fail
    go_loopg [13] (n + 1) (fun mm i wr => ∃ k : Nat, k ≤ n ∧ mm = n + 1 - k ∧ i = .int .i64 k ∧ Hid (a.take k = b.take k) ∧ w.grownBy wr none)
    case atStart => exact ⟨0, Nat.zero_le _, rfl, rfl, by show _ = _; simp, gb_refl _ _⟩
    case round =>
      obtain ⟨k, hk, rfl, rfl, Hk, hg⟩ := hrel
      by_cases hlt : k < n
      · obtain ⟨g, o, x, rfl, hx, c0⟩ := (ha.new hg).at_ hlt
        obtain ⟨g', o', y, rfl, hy, c1⟩ := (hb.new hg).at_ hlt
        have Hx := Lib.hid hx
        have Hy := Lib.hid hy
        clear hx hy
        by_cases hxy : x = y
        · subst hxy
          have Hs := Lib.hid (take_same Hk.out Hx.out Hy.out)
          clear Hk
          go_wp2_with fail
          go_quiet (fail)
          go_wp2_with fail
          go_roundg (n + 1 - (k + 1))
          case measure => omega
          case rel => exact ⟨k + 1, by omega, rfl, by go_num, Hs, gb_drewN hg _⟩
        · have Hr : Hid (c = false) := by
            show _ = _
            rw [← Hc.out, decide_eq_false_iff_not]
            rintro rfl
            exact hxy (Option.some.inj (Hx.out.symm.trans Hy.out))
          have hb1 : (x != y) = true := by simpa using hxy
          go_wp2_with fail
          go_quiet (fail)
          go_wp2_with fail
          go_ret
          exact ⟨by rw [Hr.out]; rfl, gb_drewN hg _⟩
      · obtain rfl : k = n := by omega
        have Hr : Hid (c = true) := by
          show _ = _
          rw [← Hc.out, decide_eq_true_eq]
          have := Hk.out
          rwa [List.take_of_length_le (by rw [← Hn.out]; exact Nat.le_refl _), List.take_of_length_le (by rw [← Hm.out]; exact Nat.le_refl _)] at this
        clear Hk
        go_wp2_with fail
        go_ret
        exact ⟨by rw [Hr.out]; rfl, hg⟩
  · have Hr : Hid (c = false) := by
      show _ = _
      rw [← hc, decide_eq_false_iff_not]
      rintro rfl
      exact hnm (hn.trans hm.symm)
    have hb1 : ((n : Int) != (m : Int)) = true := by simp; omega
    clear hn hm hc hle
    go_enter Tryz.func54, Tryz.ntmps54
    go_wp2_with fail
    go_ret
    exact ⟨by rw [Hr.out]; rfl, gb_refl _ _⟩
set_option maxRecDepth 20000 in
theorem sameRow_b (va vb : Value) (a b : List Int) (w : World) (ha : RI w va a) (hb : RI w vb b) {c : Bool} (hc : decide (a = b) = c) :
    Calls Tryz.prog 22 #[va, vb] w fun e w' => e = .returned (.bool c) ∧ w.grownBy w' none := by
  obtain ⟨A, n, d, rfl, _, hn⟩ := ha.form'
  obtain ⟨B, m, d', rfl, _, hm⟩ := hb.form'
  have hle := ha.le
  have Hn := Lib.hid hn
  have Hm := Lib.hid hm
  have hnx : n ≤ 9223372036854775807 := by omega
  by_cases hnm : n = m
  · subst hnm
    have Hc := Lib.hid hc
    clear hn hm hc hle
    go_enter Tryz.func22, Tryz.ntmps22
    go_wp2_with fail
    go_loopg [5] (n + 1) (fun mm i wr => ∃ k : Nat, k ≤ n ∧ mm = n + 1 - k ∧ i = .int .i64 k ∧ Hid (a.take k = b.take k) ∧ w.grownBy wr none)
    case atStart => exact ⟨0, Nat.zero_le _, rfl, rfl, by show _ = _; simp, gb_refl _ _⟩
    case round =>
      obtain ⟨k, hk, rfl, rfl, Hk, hg⟩ := hrel
      by_cases hlt : k < n
      · obtain ⟨g, o, x, rfl, hx, c0⟩ := (ha.new hg).at_ hlt
        obtain ⟨g', o', y, rfl, hy, c1⟩ := (hb.new hg).at_ hlt
        have Hx := Lib.hid hx
        have Hy := Lib.hid hy
        clear hx hy
        by_cases hxy : x = y
        · subst hxy
          have Hs := Lib.hid (take_same Hk.out Hx.out Hy.out)
          clear Hk
          go_wp2_with fail
          go_quiet (fail)
          go_wp2_with fail
          go_roundg (n + 1 - (k + 1))
          case measure => omega
          case rel => exact ⟨k + 1, by omega, rfl, by go_num, Hs, gb_drewN hg _⟩
        · have Hr : Hid (c = false) := by
            show _ = _
            rw [← Hc.out, decide_eq_false_iff_not]
            rintro rfl
            exact hxy (Option.some.inj (Hx.out.symm.trans Hy.out))
          have hb1 : (x != y) = true := by simpa using hxy
          go_wp2_with fail
          go_quiet (fail)
          go_wp2_with fail
          go_ret
          exact ⟨by rw [Hr.out]; rfl, gb_drewN hg _⟩
      · obtain rfl : k = n := by omega
        have Hr : Hid (c = true) := by
          show _ = _
          rw [← Hc.out, decide_eq_true_eq]
          have := Hk.out
          rwa [List.take_of_length_le (by rw [← Hn.out]; exact Nat.le_refl _), List.take_of_length_le (by rw [← Hm.out]; exact Nat.le_refl _)] at this
        clear Hk
        go_wp2_with fail
        go_ret
        exact ⟨by rw [Hr.out]; rfl, hg⟩
  · have Hr : Hid (c = false) := by
      show _ = _
      rw [← hc, decide_eq_false_iff_not]
      rintro rfl
      exact hnm (hn.trans hm.symm)
    have hb1 : ((n : Int) != (m : Int)) = true := by simp; omega
    clear hn hm hc hle
    go_enter Tryz.func22, Tryz.ntmps22
    go_wp2_with fail
    go_ret
    exact ⟨by rw [Hr.out]; rfl, gb_refl _ _⟩
set_option maxRecDepth 20000 in
theorem sameRows_b (va vb : Value) (a b : List (List Int)) (w : World) (ha : RL w va a) (hb : RL w vb b) {c : Bool} (hc : decide (a = b) = c) :
    Calls Tryz.prog 21 #[va, vb] w fun e w' => e = .returned (.bool c) ∧ w.grownBy w' none := by
  obtain ⟨A, n, d, rfl, _, hn, hnx⟩ := ha.form'
  obtain ⟨B, m, d', rfl, _, hm, hmx⟩ := hb.form'
  have Hn := Lib.hid hn
  have Hm := Lib.hid hm
  by_cases hnm : n = m
  · subst hnm
    have Hc := Lib.hid hc
    clear hn hm hc
    go_enter Tryz.func21, Tryz.ntmps21
    go_wp2_with fail
    go_loopg [5] (n + 1) (fun mm i wr => ∃ k : Nat, k ≤ n ∧ mm = n + 1 - k ∧ i = .int .i64 k ∧ Hid (a.take k = b.take k) ∧ w.grownBy wr none)
    case atStart => exact ⟨0, Nat.zero_le _, rfl, rfl, by show _ = _; simp, gb_refl _ _⟩
    case round =>
      obtain ⟨k, hk, rfl, rfl, Hk, hg⟩ := hrel
      by_cases hlt : k < n
      · obtain ⟨g, o, x, B1, m1, e1, rfl, hx, c0, hx1, -, -, -⟩ := (ha.new hg).at_ hlt
        obtain ⟨g', o', y, B2, m2, e2, rfl, hy, c1, hy1, -, -, -⟩ := (hb.new hg).at_ hlt
        have Hx := Lib.hid hx
        have Hy := Lib.hid hy
        clear hx hy
        by_cases hxy : x = y
        · have Hq : Hid (decide (x = y) = true) := by show _ = _; simpa using hxy
          have Hs := Lib.hid (take_same Hk.out Hx.out (hxy ▸ Hy.out))
          clear Hk hxy
          go_wp2_with fail
          go_region_held3 (fun w' => w'.cell? ⟨g, o + k, none⟩ = some (.slice B1 m1 e1) ∧ w'.cell? ⟨g', o' + k, none⟩ = some (.slice B2 m2 e2)) (go_keep)
            (first | (go_at_call 22; refine (sameRow_b _ _ x y _ (by exact hx1) (by exact hy1) Hq.out).mono ?_; rintro e w' ⟨rfl, hg'⟩; have k0 := hg'.cell (by exact c0) (by simp); have k1 := hg'.cell (by exact c1) (by simp)))
          go_wp2_with fail
          go_roundg (n + 1 - (k + 1))
          case measure => omega
          case rel => exact ⟨k + 1, by omega, rfl, by go_num, Hs, gb_trans (gb_drew hg) (by assumption)⟩
        · have Hq : Hid (decide (x = y) = false) := by show _ = _; simpa using hxy
          have Hr : Hid (c = false) := by
            show _ = _
            rw [← Hc.out, decide_eq_false_iff_not]
            rintro rfl
            exact hxy (Option.some.inj (Hx.out.symm.trans Hy.out))
          clear hxy
          go_wp2_with fail
          go_region_held3 (fun w' => w'.cell? ⟨g, o + k, none⟩ = some (.slice B1 m1 e1) ∧ w'.cell? ⟨g', o' + k, none⟩ = some (.slice B2 m2 e2)) (go_keep)
            (first | (go_at_call 22; refine (sameRow_b _ _ x y _ (by exact hx1) (by exact hy1) Hq.out).mono ?_; rintro e w' ⟨rfl, hg'⟩; have k0 := hg'.cell (by exact c0) (by simp); have k1 := hg'.cell (by exact c1) (by simp)))
          go_wp2_with fail
          go_ret
          exact ⟨by rw [Hr.out]; rfl, gb_trans (gb_drew hg) (by assumption)⟩
      · obtain rfl : k = n := by omega
        have Hr : Hid (c = true) := by
          show _ = _
          rw [← Hc.out, decide_eq_true_eq]
          have := Hk.out
          rwa [List.take_of_length_le (by rw [← Hn.out]; exact Nat.le_refl _), List.take_of_length_le (by rw [← Hm.out]; exact Nat.le_refl _)] at this
        clear Hk
        go_wp2_with fail
        go_ret
        exact ⟨by rw [Hr.out]; rfl, hg⟩
  · have Hr : Hid (c = false) := by
      show _ = _
      rw [← hc, decide_eq_false_iff_not]
      rintro rfl
      exact hnm (hn.trans hm.symm)
    have hb1 : ((n : Int) != (m : Int)) = true := by simp; omega
    clear hn hm hc
    go_enter Tryz.func21, Tryz.ntmps21
    go_wp2_with fail
    go_ret
    exact ⟨by rw [Hr.out]; rfl, gb_refl _ _⟩
end Go.Proofs.YtihobnheficpjaaGreat
