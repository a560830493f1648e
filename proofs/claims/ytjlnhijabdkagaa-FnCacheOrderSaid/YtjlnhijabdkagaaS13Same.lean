/- Walks: the laws' comparisons of entries and caches: sameEntry, sameCache. -/
import Derived.Test.YtjlnhijabdkagaaS12IRun
namespace Go.Proofs.Ytjlnhijabdkagaa
open Go.RowKit
set_option maxHeartbeats 800000 in
set_option maxRecDepth 20000 in
theorem sameEntry_b (ra oa rb ob : Value) (a b : Ent) (w : World) (h1 : RL w ra a.rows) (h2 : RI w oa a.out) (h3 : RL w rb b.rows) (h4 : RI w ob b.out) {c : Bool} (hc : decide (a = b) = c) :
    Calls Try.prog 61 #[.agg #[.int .i64 a.kind, ra, oa], .agg #[.int .i64 b.kind, rb, ob]] w fun e w' => e = .returned (.bool c) ∧ w.grownBy w' none := by
  obtain ⟨A1, n1, c1, rfl⟩ := h1.val
  obtain ⟨A2, n2, c2, rfl⟩ := h2.val
  obtain ⟨A3, n3, c3, rfl⟩ := h3.val
  obtain ⟨A4, n4, c4, rfl⟩ := h4.val
  have Ba : Blk ((w.alloc (.cells #[.int .i64 a.kind, .slice A1 n1 c1, .slice A2 n2 c2] 62)).alloc (.cells #[.int .i64 b.kind, .slice A3 n3 c3, .slice A4 n4 c4] 62)) w.heap.size 62 #[.int .i64 a.kind, .slice A1 n1 c1, .slice A2 n2 c2] := (Blk.new w _ _).alloc _
  have Bb : Blk ((w.alloc (.cells #[.int .i64 a.kind, .slice A1 n1 c1, .slice A2 n2 c2] 62)).alloc (.cells #[.int .i64 b.kind, .slice A3 n3 c3, .slice A4 n4 c4] 62)) (w.heap.size + 1) 62 #[.int .i64 b.kind, .slice A3 n3 c3, .slice A4 n4 c4] := by
    have := Blk.new (w.alloc (.cells #[.int .i64 a.kind, .slice A1 n1 c1, .slice A2 n2 c2] 62)) 62 #[.int .i64 b.kind, .slice A3 n3 c3, .slice A4 n4 c4]
    rw [World.size_alloc] at this
    exact this
  have hg0 : w.grownBy ((w.alloc (.cells #[.int .i64 a.kind, .slice A1 n1 c1, .slice A2 n2 c2] 62)).alloc (.cells #[.int .i64 b.kind, .slice A3 n3 c3, .slice A4 n4 c4] 62)) none := gb_alloc (gb_alloc (gb_refl w none) _) _
  have Hc := Lib.hid hc
  clear hc
  go_enter Try.func61, Try.ntmps61
  go_upto_region 1 with fail
  generalize ((w.alloc (.cells #[.int .i64 a.kind, .slice A1 n1 c1, .slice A2 n2 c2] 62)).alloc (.cells #[.int .i64 b.kind, .slice A3 n3 c3, .slice A4 n4 c4] 62)) = W at *
  have h1' := h1.new hg0
  have h2' := h2.new hg0
  have h3' := h3.new hg0
  have h4' := h4.new hg0
  generalize w.heap.size + 1 = R at *
  have d0 : W.cell? ⟨w.heap.size, 0, none⟩ = some (.int .i64 a.kind) := Ba.cell 0
  have d1 : W.cell? ⟨w.heap.size, 1, none⟩ = some (.slice A1 n1 c1) := Ba.cell 1
  have d3 : W.cell? ⟨R, 0, none⟩ = some (.int .i64 b.kind) := Bb.cell 0
  have d4 : W.cell? ⟨R, 1, none⟩ = some (.slice A3 n3 c3) := Bb.cell 1
  by_cases hk : a.kind = b.kind
  · have hb1 : (a.kind == b.kind) = true := by simpa using hk
    by_cases hr : a.rows = b.rows
    · have Hq : Hid (decide (a.rows = b.rows) = true) := by show _ = _; simpa using hr
      have Hq2 : Hid (decide (a.out = b.out) = c) := by
        show _ = _
        rw [← Hc.out]
        obtain ⟨k1, r1, o1⟩ := a
        obtain ⟨k2, r2, o2⟩ := b
        simp only [Ent.mk.injEq] at *
        simp [hk, hr]
      clear hk hr
      go_wp2_with fail
      refine (sameRows_b _ _ a.rows b.rows _ h1' h3' Hq.out).mono ?_
      rintro e' w2 ⟨rfl, hg2⟩
      have x2 : w2.cell? ⟨w.heap.size, 2, none⟩ = some (.slice A2 n2 c2) := (Ba.grown hg2 (by simp)).cell 2
      have x5 : w2.cell? ⟨R, 2, none⟩ = some (.slice A4 n4 c4) := (Bb.grown hg2 (by simp)).cell 2
      go_wp2_with fail
      refine (sameRow_b _ _ a.out b.out _ (h2'.new hg2) (h4'.new hg2) Hq2.out).mono ?_
      rintro e' w3 ⟨rfl, hg3⟩
      go_wp2_with fail
      go_ret
      exact ⟨rfl, gb_trans (gb_trans hg0 hg2) hg3⟩
    · have Hq : Hid (decide (a.rows = b.rows) = false) := by show _ = _; simpa using hr
      have Hq2 : Hid (c = false) := by
        show _ = _
        rw [← Hc.out, decide_eq_false_iff_not]
        rintro rfl
        exact hr rfl
      clear hk hr
      go_wp2_with fail
      refine (sameRows_b _ _ a.rows b.rows _ h1' h3' Hq.out).mono ?_
      rintro e' w2 ⟨rfl, hg2⟩
      go_wp2_with fail
      go_ret
      exact ⟨by rw [Hq2.out]; rfl, gb_trans hg0 hg2⟩
  · have hb1 : (a.kind == b.kind) = false := by simpa using hk
    have Hq2 : Hid (c = false) := by
      show _ = _
      rw [← Hc.out, decide_eq_false_iff_not]
      rintro rfl
      exact hk rfl
    clear hk
    go_wp2_with fail
    go_ret
    exact ⟨by rw [Hq2.out]; rfl, hg0⟩
set_option maxRecDepth 20000 in
theorem sameCache_b (va vb : Value) (a b : List Ent) (w : World) (ha : RE w va a) (hb : RE w vb b) {c : Bool} (hc : decide (a = b) = c) :
    Calls Try.prog 59 #[va, vb] w fun e w' => e = .returned (.bool c) ∧ w.grownBy w' none := by
  obtain ⟨A, n, d, rfl, _, hn, hnx⟩ := ha.form'
  obtain ⟨B, m, d', rfl, _, hm, hmx⟩ := hb.form'
  have Hn := Lib.hid hn
  have Hm := Lib.hid hm
  by_cases hnm : n = m
  · subst hnm
    have Hc := Lib.hid hc
    clear hn hm hc
    go_enter Try.func59, Try.ntmps59
    go_wp2_with fail
    go_loopg [5] (n + 1) (fun mm i wr => ∃ k : Nat, k ≤ n ∧ mm = n + 1 - k ∧ i = .int .i64 k ∧ Hid (a.take k = b.take k) ∧ w.grownBy wr none)
    case atStart => exact ⟨0, Nat.zero_le _, rfl, rfl, by show _ = _; simp, gb_refl _ _⟩
    case round =>
      obtain ⟨k, hk, rfl, rfl, Hk, hg⟩ := hrel
      by_cases hlt : k < n
      · obtain ⟨g, o, x, B1, m1, e1, B2, m2, e2, rfl, hx, c0, c1, c2, hx1, hx2⟩ := (ha.new hg).at_ hlt
        obtain ⟨g', o', y, B3, m3, e3, B4, m4, e4, rfl, hy, c3, c4, c5, hy1, hy2⟩ := (hb.new hg).at_ hlt
        have Hx := Lib.hid hx
        have Hy := Lib.hid hy
        clear hx hy
        have key : ∀ q : Bool, decide (x = y) = q → True := fun _ _ => trivial
        by_cases hxy : x = y
        · have Hq : Hid (decide (x = y) = true) := by show _ = _; simpa using hxy
          have Hs := Lib.hid (take_same Hk.out Hx.out (hxy ▸ Hy.out))
          clear Hk hxy key
          go_wp2_with fail
          go_region_held3 (fun w' => w'.cell? ⟨g, o + k * 3, none⟩ = some (.int .i64 x.kind) ∧ w'.cell? ⟨g, o + k * 3 + 1, none⟩ = some (.slice B1 m1 e1) ∧ w'.cell? ⟨g, o + k * 3 + 2, none⟩ = some (.slice B2 m2 e2) ∧ w'.cell? ⟨g', o' + k * 3, none⟩ = some (.int .i64 y.kind) ∧ w'.cell? ⟨g', o' + k * 3 + 1, none⟩ = some (.slice B3 m3 e3) ∧ w'.cell? ⟨g', o' + k * 3 + 2, none⟩ = some (.slice B4 m4 e4)) (go_keep)
            (first | (go_at_call 61; refine (sameEntry_b _ _ _ _ x y _ (by exact hx1) (by exact hx2) (by exact hy1) (by exact hy2) Hq.out).mono ?_; rintro e w' ⟨rfl, hg'⟩; have k0 := hg'.cell (by exact c0) (by simp); have k1 := hg'.cell (by exact c1) (by simp); have k2 := hg'.cell (by exact c2) (by simp); have k3 := hg'.cell (by exact c3) (by simp); have k4 := hg'.cell (by exact c4) (by simp); have k5 := hg'.cell (by exact c5) (by simp)))
          go_wp2_with fail
          go_roundg (n + 1 - (k + 1))
          case measure => omega
          case rel => exact ⟨k + 1, by omega, rfl, by go_num, Hs, gb_trans (gb_drew hg) (by assumption)⟩
        · have Hq : Hid (decide (x = y) = false) := by show _ = _; simpa using hxy
          have Hr : Hid (c = false) := by
            show _ = _
            rw [← Hc.out, decide_eq_false_iff_not]
            rintro rfl
            exact hxy (Option.some.inj (Hx.out.symm.trans Hy.out))
          clear hxy key
          go_wp2_with fail
          go_region_held3 (fun w' => w'.cell? ⟨g, o + k * 3, none⟩ = some (.int .i64 x.kind) ∧ w'.cell? ⟨g, o + k * 3 + 1, none⟩ = some (.slice B1 m1 e1) ∧ w'.cell? ⟨g, o + k * 3 + 2, none⟩ = some (.slice B2 m2 e2) ∧ w'.cell? ⟨g', o' + k * 3, none⟩ = some (.int .i64 y.kind) ∧ w'.cell? ⟨g', o' + k * 3 + 1, none⟩ = some (.slice B3 m3 e3) ∧ w'.cell? ⟨g', o' + k * 3 + 2, none⟩ = some (.slice B4 m4 e4)) (go_keep)
            (first | (go_at_call 61; refine (sameEntry_b _ _ _ _ x y _ (by exact hx1) (by exact hx2) (by exact hy1) (by exact hy2) Hq.out).mono ?_; rintro e w' ⟨rfl, hg'⟩; have k0 := hg'.cell (by exact c0) (by simp); have k1 := hg'.cell (by exact c1) (by simp); have k2 := hg'.cell (by exact c2) (by simp); have k3 := hg'.cell (by exact c3) (by simp); have k4 := hg'.cell (by exact c4) (by simp); have k5 := hg'.cell (by exact c5) (by simp)))
          go_wp2_with fail
          go_ret
          exact ⟨by rw [Hr.out]; rfl, gb_trans (gb_drew hg) (by assumption)⟩
      · obtain rfl : k = n := by omega
        have Hr : Hid (c = true) := by
          show _ = _
          rw [← Hc.out, decide_eq_true_eq]
          have := Hk.out
          rwa [List.take_of_length_le (by rw [← Hn.out]; exact Nat.le_refl _), List.take_of_length_le (by rw [← Hm.out]; exact Nat.le_refl _)] at this
        clear Hk
        go_wp2_with fail
        go_ret
        exact ⟨by rw [Hr.out]; rfl, hg⟩
  · have Hr : Hid (c = false) := by
      show _ = _
      rw [← hc, decide_eq_false_iff_not]
      rintro rfl
      exact hnm (hn.trans hm.symm)
    have hb1 : ((n : Int) != (m : Int)) = true := by simp; omega
    clear hn hm hc
    go_enter Try.func59, Try.ntmps59
    go_wp2_with fail
    go_ret
    exact ⟨by rw [Hr.out]; rfl, gb_refl _ _⟩
end Go.Proofs.Ytjlnhijabdkagaa
