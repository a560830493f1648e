/- Walks: spec.l11Counts. · Walks: spec.DrawCountKinds, spec.DrawCountWide, laws.sameRow, impl.CostKind, impl.CostAll. · Walks: comparisons of rows and of lists of rows (written by gen_same.py). -/
import Derived.Test.YtihobnheficpjaaGreatDoorM15
import Derived.Test.YtihobnheficpjaaGreatDoorM13
import Derived.Test.YtihobnheficpjaaGreatDoorM11
import Derived.Test.YtihobnheficpjaaGreatDoorM01
import Derived.Test.YtihobnheficpjaaGreatDoorM09
import Derived.Test.YtihobnheficpjaaGreatDoorM06
namespace Go.Proofs.YtihobnheficpjaaGreatDoor
open Go.RowKit

def cntAt (plan : List Node) (i : Nat) : Int := ((dedup (frmAt plan i)).length : Int)
theorem countsOf_cnt (plan : List Node) : countsOf plan = (List.range plan.length).map (cntAt plan) := countsOf_frm plan
theorem cnt_succ (plan : List Node) (k : Nat) : (List.range (k + 1)).map (cntAt plan) = (List.range k).map (cntAt plan) ++ [cntAt plan k] := by
  rw [List.range_succ, List.map_append]
  rfl
theorem dedup_take {l : List Int} (hl : ∀ y ∈ l, 0 ≤ y) {q : Nat} {y : Int} (h : l[q]? = some y) : (dedup (l.take (q + 1))).length = if y ∈ l.take q then (dedup (l.take q)).length else (dedup (l.take q)).length + 1 := by
  obtain ⟨hq, rfl⟩ := List.getElem?_eq_some_iff.1 h
  rw [List.take_succ_eq_append_getElem hq, dedup_snoc]
  have h1 := mem_dedup_int (l := l.take q) (fun y hy => hl y (List.mem_of_mem_take hy)) (hl l[q] (List.getElem_mem hq))
  by_cases hm : l[q] ∈ l.take q
  · rw [if_pos hm, if_pos (h1.2 hm)]
  · rw [if_neg hm, if_neg (fun e => hm (h1.1 e)), List.length_append]
    rfl
set_option maxHeartbeats 800000 in
set_option maxRecDepth 20000 in
theorem l11Counts_any (v : Value) (plan : List Node) (w : World) (h : RN w v plan) (hv : planValid plan = true) : Calls Tryz.prog 129 #[v] w (IntsOut w (countsOf plan)) := by
  obtain ⟨A, n, c, rfl, hnc, hn, -⟩ := h.form'
  have hl10 := planValid_len hv
  have hn10 : n ≤ 10 := by omega
  have Hn := Lib.hid hn
  have Hv := Lib.hid hv
  have h0 : OwnI (w.alloc (.cells #[] 3)) w.heap.size (.slice (some ⟨w.heap.size, 0, none⟩) 0 0) [] := OwnI.empty w (Nat.le_refl _)
  clear hn hv hl10
  go_enter Tryz.func129, Tryz.ntmps129
  go_wp2_with fail
  go_loopg [3, 4] (n + 1) (fun mm out i wr => ∃ k : Nat, k ≤ n ∧ mm = n + 1 - k ∧ i = .int .i64 k ∧ OwnI wr w.heap.size out ((List.range k).map (cntAt plan)) ∧ w.grownBy wr none)
  case atStart => exact ⟨0, Nat.zero_le _, rfl, rfl, h0, gb_alloc (gb_refl w none) _⟩
  case round =>
    clear h0
    obtain ⟨k, hk, rfl, rfl, hown, hg⟩ := hrel
    by_cases hlt : k < n
    · obtain ⟨g, o, nd, f, r, rfl, hx, c0, c1, c2, hf, hr⟩ := (h.new hg).at_ hlt
      obtain ⟨Af, nf, cf, rfl, hfc, hnf⟩ := hf.form'
      have hf2 : nf ≤ 2 := by rw [hnf]; exact (planValid_node Hv.out hx).2.1
      have Hpos : Hid (∀ y ∈ nd.frm, 0 ≤ y) := fun y hy => (nodeFits_mem (planValid_node Hv.out hx).1 hy).1
      have Hfr : Hid (frmAt plan k = nd.frm) := frmAt_get hx
      have Hnf := Lib.hid hnf
      have hol : ((List.range k).map (cntAt plan)).length ≤ 1000000000 := by rw [List.length_map, List.length_range]; omega
      clear hx c0 c2 hr hnf
      go_wp2_with fail
      go_loopg [5, 6] (nf + 1) (fun mm m i wq => ∃ q : Nat, q ≤ nf ∧ mm = nf + 1 - q ∧ i = .int .i64 q ∧ m = .int .i64 ((dedup (nd.frm.take q)).length : Int) ∧ wr.grownBy wq none)
      case atStart => exact ⟨0, Nat.zero_le _, rfl, rfl, rfl, gb_refl _ _⟩
      case round =>
        obtain ⟨q, hq, rfl, rfl, rfl, hgq⟩ := hrel
        have c1q := cell_new c1 hgq
        by_cases hlq : q < nf
        · obtain ⟨g2, o2, y, rfl, hy, d0⟩ := (hf.new hgq).at_ hlq
          have ht := (hf.new hgq).take (k := q) (by omega)
          have hqc : q ≤ cf := by omega
          have hs := dedup_take Hpos.out hy
          have hdl : (dedup (nd.frm.take q)).length ≤ 2 := by
            have := dedup_len (nd.frm.take q)
            rw [List.length_take] at this
            omega
          clear hy
          by_cases hm : y ∈ nd.frm.take q
          · have Hm : Hid (decide (y ∈ nd.frm.take q) = true) := decide_eq_true hm
            rw [if_pos hm] at hs
            have Hs := Lib.hid hs
            clear hs hm
            go_wp2_with fail
            go_quiet ((go_at_call 102; exact quiet_l (l3Has_b _ _ _ _ (by exact ht) Hm.out)))
            go_wp2_with fail
            go_roundg (nf + 1 - (q + 1))
            case measure => omega
            case rel => exact ⟨q + 1, by omega, rfl, by go_num, by rw [Hs.out], gb_drewN hgq _⟩
          · have Hm : Hid (decide (y ∈ nd.frm.take q) = false) := decide_eq_false hm
            rw [if_neg hm] at hs
            have Hs := Lib.hid hs
            clear hs hm
            go_wp2_with fail
            go_quiet ((go_at_call 102; exact quiet_l (l3Has_b _ _ _ _ (by exact ht) Hm.out)))
            go_wp2_with fail
            go_roundg (nf + 1 - (q + 1))
            case measure => omega
            case rel => exact ⟨q + 1, by omega, rfl, by go_num, by rw [Hs.out]; go_num, gb_drewN hgq _⟩
        · obtain rfl : q = nf := by omega
          have Hc : Hid (((dedup (nd.frm.take q)).length : Int) = cntAt plan k) := by
            show _ = _
            unfold cntAt
            rw [Hfr.out, List.take_of_length_le (by rw [← Hnf.out]; exact Nat.le_refl _)]
          rw [Hc.out]
          have hownq := hown.new hgq
          have hg' := gb_trans hg hgq
          go_wp2_with (at_builtin; go_must (refine wp_push_int _ _ rfl rfl hownq hol hg'.size rfl rfl ?_))
          intro v2 w2 hown2 hg2
          rw [← cnt_succ] at hown2
          have hg3 := hownq.gb hg' hg2 (Nat.le_refl _)
          obtain ⟨A2, n2, c2, rfl⟩ := hown2.ri.val
          go_wp2_with fail
          go_roundg (n + 1 - (k + 1))
          case measure => omega
          case rel => exact ⟨k + 1, by omega, rfl, by go_num, hown2, hg3⟩
    · obtain rfl : k = n := by omega
      have e : (List.range k).map (cntAt plan) = countsOf plan := by rw [countsOf_cnt, Hn.out]
      rw [e] at hown
      obtain ⟨A2, n2, c2, rfl⟩ := hown.ri.val
      go_wp2_with fail
      go_ret
      exact ⟨_, rfl, hown, hg⟩
end Go.Proofs.YtihobnheficpjaaGreatDoor
namespace Go.Proofs.YtihobnheficpjaaGreatDoor
open Go.RowKit

/-- Two rows that read alike are the same. -/
theorem sameRow_any (v v' : Value) (l : List Int) (w : World) (h : RI w v l) (h' : RI w v' l) : Calls Tryz.prog 21 #[v, v'] w fun e w' => e = .returned (.bool true) ∧ w.grownBy w' none := by
  obtain ⟨A, n, c, rfl, h2, h3⟩ := h.form'
  obtain ⟨A', n', c', rfl, h2', h3'⟩ := h'.form'
  have hle := h.le
  obtain rfl : n = n' := by omega
  have hn : n ≤ 9223372036854775807 := by omega
  clear h3 h3' hle
  go_enter Tryz.func21, Tryz.ntmps21
  go_wp2_with fail
  go_loopw [5] (fun i wr => ∃ k : Nat, k ≤ n ∧ i = .int .i64 k ∧ w.grownBy wr none) (fun i _ => n - (intOf i).toNat)
  case atStart => exact ⟨0, Nat.zero_le _, rfl, gb_refl _ _⟩
  case round =>
    obtain ⟨k, hk, rfl, hg⟩ := hrel
    have hw := h.new hg
    have hw' := h'.new hg
    by_cases hlt : k < n
    · obtain ⟨g, o, x, rfl, hx, c0⟩ := hw.at_ hlt
      obtain ⟨g', o', x', rfl, hx', c1⟩ := hw'.at_ hlt
      obtain rfl : x = x' := by rw [hx] at hx'; injection hx'
      clear hx hx'
      go_wp2_with fail
      go_quiet (fail)
      go_wp2_with fail
      go_roundw
      case rel => exact ⟨k + 1, by omega, by go_num, gb_drewN hg _⟩
      case measure => simp [intOf]; omega
    · go_wp2_with fail
      go_ret
      exact ⟨rfl, hg⟩
end Go.Proofs.YtihobnheficpjaaGreatDoor
namespace Go.Proofs.YtihobnheficpjaaGreatDoor
open Go.RowKit

theorem take_same {α : Type} {a b : List α} {k : Nat} {x : α} (h : a.take k = b.take k) (hx : a[k]? = some x) (hy : b[k]? = some x) : a.take (k + 1) = b.take (k + 1) := by
  obtain ⟨h1, rfl⟩ := List.getElem?_eq_some_iff.1 hx
  obtain ⟨h2, h3⟩ := List.getElem?_eq_some_iff.1 hy
  rw [List.take_succ_eq_append_getElem h1, List.take_succ_eq_append_getElem h2, h, h3]
set_option maxRecDepth 20000 in
theorem l13Same_b (va vb : Value) (a b : List Int) (w : World) (ha : RI w va a) (hb : RI w vb b) {c : Bool} (hc : decide (a = b) = c) :
    Calls Tryz.prog 103 #[va, vb] w fun e w' => e = .returned (.bool c) ∧ w.grownBy w' none := by
  obtain ⟨A, n, d, rfl, _, hn⟩ := ha.form'
  obtain ⟨B, m, d', rfl, _, hm⟩ := hb.form'
  have hle := ha.le
  have Hn := Lib.hid hn
  have Hm := Lib.hid hm
  have hnx : n ≤ 9223372036854775807 := by omega
  by_cases hnm : n = m
  · subst hnm
    have Hc := Lib.hid hc
    clear hn hm hc hle
    go_enter Tryz.func103, Tryz.ntmps103
    go_wp2_with fail
    go_loopg [5] (n + 1) (fun mm i wr => ∃ k : Nat, k ≤ n ∧ mm = n + 1 - k ∧ i = .int .i64 k ∧ Hid (a.take k = b.take k) ∧ w.grownBy wr none)
    case atStart => exact ⟨0, Nat.zero_le _, rfl, rfl, by show _ = _; simp, gb_refl _ _⟩
    case round =>
      obtain ⟨k, hk, rfl, rfl, Hk, hg⟩ := hrel
      by_cases hlt : k < n
      · obtain ⟨g, o, x, rfl, hx, c0⟩ := (ha.new hg).at_ hlt
        obtain ⟨g', o', y, rfl, hy, c1⟩ := (hb.new hg).at_ hlt
        have Hx := Lib.hid hx
        have Hy := Lib.hid hy
        clear hx hy
        by_cases hxy : x = y
        · subst hxy
          have Hs := Lib.hid (take_same Hk.out Hx.out Hy.out)
          clear Hk
          go_wp2_with fail
          go_quiet (fail)
          go_wp2_with fail
          go_roundg (n + 1 - (k + 1))
          case measure => omega
          case rel => exact ⟨k + 1, by omega, rfl, by go_num, Hs, gb_drewN hg _⟩
        · have Hr : Hid (c = false) := by
            show _ = _
            rw [← Hc.out, decide_eq_false_iff_not]
            rintro rfl
            exact hxy (Option.some.inj (Hx.out.symm.trans Hy.out))
          have hb1 : (x != y) = true := by simpa using hxy
          go_wp2_with fail
          go_quiet (fail)
          go_wp2_with fail
          go_ret
          exact ⟨by rw [Hr.out]; rfl, gb_drewN hg _⟩
      · obtain rfl : k = n := by omega
        have Hr : Hid (c = true) := by
          show _ = _
          rw [← Hc.out, decide_eq_true_eq]
          have := Hk.out
          rwa [List.take_of_length_le (by rw [← Hn.out]; exact Nat.le_refl _), List.take_of_length_le (by rw [← Hm.out]; exact Nat.le_refl _)] at this
        clear Hk
        go_wp2_with fail
        go_ret
        exact ⟨by rw [Hr.out]; rfl, hg⟩
  · have Hr : Hid (c = false) := by
      show _ = _
      rw [← hc, decide_eq_false_iff_not]
      rintro rfl
      exact hnm (hn.trans hm.symm)
    have hb1 : ((n : Int) != (m : Int)) = true := by simp; omega
    clear hn hm hc hle
    go_enter Tryz.func103, Tryz.ntmps103
    go_wp2_with fail
    go_ret
    exact ⟨by rw [Hr.out]; rfl, gb_refl _ _⟩
set_option maxRecDepth 20000 in
theorem sEqual_b (va vb : Value) (a b : List Int) (w : World) (ha : RI w va a) (hb : RI w vb b) {c : Bool} (hc : decide (a = b) = c) :
    Calls Tryz.prog 109 #[va, vb] w fun e w' => e = .returned (.bool c) ∧ w.grownBy w' none := by
  obtain ⟨A, n, d, rfl, _, hn⟩ := ha.form'
  obtain ⟨B, m, d', rfl, _, hm⟩ := hb.form'
  have hle := ha.le
  have Hn := Lib.hid hn
  have Hm := Lib.hid hm
  have hnx : n ≤ 9223372036854775807 := by omega
  by_cases hnm : n = m
  · subst hnm
    have Hc := Lib.hid hc
    clear hn hm hc hle
    go_enter Tryz.func109, Tryz.ntmps109
    go_wp2_with fail
    go_loopg [13] (n + 1) (fun mm i wr => ∃ k : Nat, k ≤ n ∧ mm = n + 1 - k ∧ i = .int .i64 k ∧ Hid (a.take k = b.take k) ∧ w.grownBy wr none)
    case atStart => exact ⟨0, Nat.zero_le _, rfl, rfl, by show _ = _; simp, gb_refl _ _⟩
    case round =>
      obtain ⟨k, hk, rfl, rfl, Hk, hg⟩ := hrel
      by_cases hlt : k < n
      · obtain ⟨g, o, x, rfl, hx, c0⟩ := (ha.new hg).at_ hlt
        obtain ⟨g', o', y, rfl, hy, c1⟩ := (hb.new hg).at_ hlt
        have Hx := Lib.hid hx
        have Hy := Lib.hid hy
        clear hx hy
        by_cases hxy : x = y
        · subst hxy
          have Hs := Lib.hid (take_same Hk.out Hx.out Hy.out)
          clear Hk
          go_wp2_with fail
          go_quiet (fail)
          go_wp2_with fail
          go_roundg (n + 1 - (k + 1))
          case measure => omega
          case rel => exact ⟨k + 1, by omega, rfl, by go_num, Hs, gb_drewN hg _⟩
        · have Hr : Hid (c = false) := by
            show _ = _
            rw [← Hc.out, decide_eq_false_iff_not]
            rintro rfl
            exact hxy (Option.some.inj (Hx.out.symm.trans Hy.out))
          have hb1 : (x != y) = true := by simpa using hxy
          go_wp2_with fail
          go_quiet (fail)
          go_wp2_with fail
          go_ret
          exact ⟨by rw [Hr.out]; rfl, gb_drewN hg _⟩
      · obtain rfl : k = n := by omega
        have Hr : Hid (c = true) := by
          show _ = _
          rw [← Hc.out, decide_eq_true_eq]
          have := Hk.out
          rwa [List.take_of_length_le (by rw [← Hn.out]; exact Nat.le_refl _), List.take_of_length_le (by rw [← Hm.out]; exact Nat.le_refl _)] at this
        clear Hk
        go_wp2_with fail
        go_ret
        exact ⟨by rw [Hr.out]; rfl, hg⟩
  · have Hr : Hid (c = false) := by
      show _ = _
      rw [← hc, decide_eq_false_iff_not]
      rintro rfl
      exact hnm (hn.trans hm.symm)
    have hb1 : ((n : Int) != (m : Int)) = true := by simp; omega
    clear hn hm hc hle
    go_enter Tryz.func109, Tryz.ntmps109
    go_wp2_with fail
    go_ret
    exact ⟨by rw [Hr.out]; rfl, gb_refl _ _⟩
set_option maxRecDepth 20000 in
theorem sameRow_b (va vb : Value) (a b : List Int) (w : World) (ha : RI w va a) (hb : RI w vb b) {c : Bool} (hc : decide (a = b) = c) :
    Calls Tryz.prog 21 #[va, vb] w fun e w' => e = .returned (.bool c) ∧ w.grownBy w' none := by
  obtain ⟨A, n, d, rfl, _, hn⟩ := ha.form'
  obtain ⟨B, m, d', rfl, _, hm⟩ := hb.form'
  have hle := ha.le
  have Hn := Lib.hid hn
  have Hm := Lib.hid hm
  have hnx : n ≤ 9223372036854775807 := by omega
  by_cases hnm : n = m
  · subst hnm
    have Hc := Lib.hid hc
    clear hn hm hc hle
    go_enter Tryz.func21, Tryz.ntmps21
    go_wp2_with fail
    go_loopg [5] (n + 1) (fun mm i wr => ∃ k : Nat, k ≤ n ∧ mm = n + 1 - k ∧ i = .int .i64 k ∧ Hid (a.take k = b.take k) ∧ w.grownBy wr none)
    case atStart => exact ⟨0, Nat.zero_le _, rfl, rfl, by show _ = _; simp, gb_refl _ _⟩
    case round =>
      obtain ⟨k, hk, rfl, rfl, Hk, hg⟩ := hrel
      by_cases hlt : k < n
      · obtain ⟨g, o, x, rfl, hx, c0⟩ := (ha.new hg).at_ hlt
        obtain ⟨g', o', y, rfl, hy, c1⟩ := (hb.new hg).at_ hlt
        have Hx := Lib.hid hx
        have Hy := Lib.hid hy
        clear hx hy
        by_cases hxy : x = y
        · subst hxy
          have Hs := Lib.hid (take_same Hk.out Hx.out Hy.out)
          clear Hk
          go_wp2_with fail
          go_quiet (fail)
          go_wp2_with fail
          go_roundg (n + 1 - (k + 1))
          case measure => omega
          case rel => exact ⟨k + 1, by omega, rfl, by go_num, Hs, gb_drewN hg _⟩
        · have Hr : Hid (c = false) := by
            show _ = _
            rw [← Hc.out, decide_eq_false_iff_not]
            rintro rfl
            exact hxy (Option.some.inj (Hx.out.symm.trans Hy.out))
          have hb1 : (x != y) = true := by simpa using hxy
          go_wp2_with fail
          go_quiet (fail)
          go_wp2_with fail
          go_ret
          exact ⟨by rw [Hr.out]; rfl, gb_drewN hg _⟩
      · obtain rfl : k = n := by omega
        have Hr : Hid (c = true) := by
          show _ = _
          rw [← Hc.out, decide_eq_true_eq]
          have := Hk.out
          rwa [List.take_of_length_le (by rw [← Hn.out]; exact Nat.le_refl _), List.take_of_length_le (by rw [← Hm.out]; exact Nat.le_refl _)] at this
        clear Hk
        go_wp2_with fail
        go_ret
        exact ⟨by rw [Hr.out]; rfl, hg⟩
  · have Hr : Hid (c = false) := by
      show _ = _
      rw [← hc, decide_eq_false_iff_not]
      rintro rfl
      exact hnm (hn.trans hm.symm)
    have hb1 : ((n : Int) != (m : Int)) = true := by simp; omega
    clear hn hm hc hle
    go_enter Tryz.func21, Tryz.ntmps21
    go_wp2_with fail
    go_ret
    exact ⟨by rw [Hr.out]; rfl, gb_refl _ _⟩
set_option maxRecDepth 20000 in
theorem sameRows_b (va vb : Value) (a b : List (List Int)) (w : World) (ha : RL w va a) (hb : RL w vb b) {c : Bool} (hc : decide (a = b) = c) :
    Calls Tryz.prog 45 #[va, vb] w fun e w' => e = .returned (.bool c) ∧ w.grownBy w' none := by
  obtain ⟨A, n, d, rfl, _, hn, hnx⟩ := ha.form'
  obtain ⟨B, m, d', rfl, _, hm, hmx⟩ := hb.form'
  have Hn := Lib.hid hn
  have Hm := Lib.hid hm
  by_cases hnm : n = m
  · subst hnm
    have Hc := Lib.hid hc
    clear hn hm hc
    go_enter Tryz.func45, Tryz.ntmps45
    go_wp2_with fail
    go_loopg [5] (n + 1) (fun mm i wr => ∃ k : Nat, k ≤ n ∧ mm = n + 1 - k ∧ i = .int .i64 k ∧ Hid (a.take k = b.take k) ∧ w.grownBy wr none)
    case atStart => exact ⟨0, Nat.zero_le _, rfl, rfl, by show _ = _; simp, gb_refl _ _⟩
    case round =>
      obtain ⟨k, hk, rfl, rfl, Hk, hg⟩ := hrel
      by_cases hlt : k < n
      · obtain ⟨g, o, x, B1, m1, e1, rfl, hx, c0, hx1, -, -, -⟩ := (ha.new hg).at_ hlt
        obtain ⟨g', o', y, B2, m2, e2, rfl, hy, c1, hy1, -, -, -⟩ := (hb.new hg).at_ hlt
        have Hx := Lib.hid hx
        have Hy := Lib.hid hy
        clear hx hy
        by_cases hxy : x = y
        · have Hq : Hid (decide (x = y) = true) := by show _ = _; simpa using hxy
          have Hs := Lib.hid (take_same Hk.out Hx.out (hxy ▸ Hy.out))
          clear Hk hxy
          go_wp2_with fail
          go_region_held3 (fun w' => w'.cell? ⟨g, o + k, none⟩ = some (.slice B1 m1 e1) ∧ w'.cell? ⟨g', o' + k, none⟩ = some (.slice B2 m2 e2)) (go_keep)
            (first | (go_at_call 21; refine (sameRow_b _ _ x y _ (by exact hx1) (by exact hy1) Hq.out).mono ?_; rintro e w' ⟨rfl, hg'⟩; have k0 := hg'.cell (by exact c0) (by simp); have k1 := hg'.cell (by exact c1) (by simp)))
          go_wp2_with fail
          go_roundg (n + 1 - (k + 1))
          case measure => omega
          case rel => exact ⟨k + 1, by omega, rfl, by go_num, Hs, gb_trans (gb_drew hg) (by assumption)⟩
        · have Hq : Hid (decide (x = y) = false) := by show _ = _; simpa using hxy
          have Hr : Hid (c = false) := by
            show _ = _
            rw [← Hc.out, decide_eq_false_iff_not]
            rintro rfl
            exact hxy (Option.some.inj (Hx.out.symm.trans Hy.out))
          clear hxy
          go_wp2_with fail
          go_region_held3 (fun w' => w'.cell? ⟨g, o + k, none⟩ = some (.slice B1 m1 e1) ∧ w'.cell? ⟨g', o' + k, none⟩ = some (.slice B2 m2 e2)) (go_keep)
            (first | (go_at_call 21; refine (sameRow_b _ _ x y _ (by exact hx1) (by exact hy1) Hq.out).mono ?_; rintro e w' ⟨rfl, hg'⟩; have k0 := hg'.cell (by exact c0) (by simp); have k1 := hg'.cell (by exact c1) (by simp)))
          go_wp2_with fail
          go_ret
          exact ⟨by rw [Hr.out]; rfl, gb_trans (gb_drew hg) (by assumption)⟩
      · obtain rfl : k = n := by omega
        have Hr : Hid (c = true) := by
          show _ = _
          rw [← Hc.out, decide_eq_true_eq]
          have := Hk.out
          rwa [List.take_of_length_le (by rw [← Hn.out]; exact Nat.le_refl _), List.take_of_length_le (by rw [← Hm.out]; exact Nat.le_refl _)] at this
        clear Hk
        go_wp2_with fail
        go_ret
        exact ⟨by rw [Hr.out]; rfl, hg⟩
  · have Hr : Hid (c = false) := by
      show _ = _
      rw [← hc, decide_eq_false_iff_not]
      rintro rfl
      exact hnm (hn.trans hm.symm)
    have hb1 : ((n : Int) != (m : Int)) = true := by simp; omega
    clear hn hm hc
    go_enter Tryz.func45, Tryz.ntmps45
    go_wp2_with fail
    go_ret
    exact ⟨by rw [Hr.out]; rfl, gb_refl _ _⟩
end Go.Proofs.YtihobnheficpjaaGreatDoor
