/- Walks: slices.Contains, (plannedCrew).isDone, countsFit, rowsFit. · Walks: (plannedCrew).countsFit, rowsFit. · Walks: (plannedCrew).rowsFit. -/
import Derived.Test.YtihobnheficpjaaGreatDoorM22
import Derived.Test.YtihobnheficpjaaGreatDoorM16
import Derived.Test.YtihobnheficpjaaGreatDoorM04
namespace Go.Proofs.YtihobnheficpjaaGreatDoor
open Go.RowKit

theorem index_any (v : Value) (l : List Int) (x : Int) (w : World) (h : RI w v l) : Calls Tryz.prog 165 #[v, .int .i64 x] w fun e w' => ∃ z : Int, e = .returned (.int .i64 z) ∧ (x ∈ l ↔ 0 ≤ z) ∧ w = w' := by
  obtain ⟨A, n, c, rfl, -, hn⟩ := h.form'
  have hle := h.le
  have hn9 : n ≤ 9223372036854775807 := by omega
  have Hn := Lib.hid hn
  clear hn
  go_enter Tryz.func165, Tryz.ntmps165
  go_wp2_with fail
  go_loopg [8] (n + 1) (fun mm i wr => ∃ k : Nat, k ≤ n ∧ mm = n + 1 - k ∧ i = .int .i64 k ∧ w = wr ∧ Hid (∀ j, j < k → l[j]? ≠ some x))
  case atStart => exact ⟨0, Nat.zero_le _, rfl, rfl, rfl, fun j hj => absurd hj (Nat.not_lt_zero _)⟩
  case round =>
    obtain ⟨k, hk, rfl, rfl, rfl, Hk⟩ := hrel
    by_cases hlt : k < n
    · obtain ⟨g, o, y, rfl, hy, c0⟩ := h.at_ hlt
      have Hy := Lib.hid hy
      clear hy
      by_cases e : x = y
      · subst e
        have hin : Hid (x ∈ l) := List.mem_of_getElem? Hy.out
        go_wp2_with fail
        go_ret
        exact ⟨k, rfl, ⟨fun _ => by omega, fun _ => hin.out⟩, rfl⟩
      · have hb : (x == y) = false := by simpa using e
        go_wp2_with fail
        go_roundg (n + 1 - (k + 1))
        case measure => omega
        case rel => exact ⟨k + 1, by omega, rfl, by go_num, rfl, fun j hj => by
          by_cases e2 : j = k
          · subst e2
            rw [Hy.out]
            intro e3
            injection e3 with e3
            exact e e3.symm
          · exact Hk.out j (by omega)⟩
    · obtain rfl : n = k := by omega
      have hno : Hid (x ∉ l) := fun hx => by
        obtain ⟨j, hj, e⟩ := List.getElem_of_mem hx
        exact Hk.out j (by have := Hn.out; omega) (by rw [List.getElem?_eq_getElem hj, e])
      go_wp2_with fail
      go_ret
      exact ⟨-1, rfl, ⟨fun hx => absurd hx hno.out, fun hx => by omega⟩, rfl⟩
theorem contains_any (v : Value) (l : List Int) (x : Int) (w : World) (h : RI w v l) : Calls Tryz.prog 134 #[v, .int .i64 x] w fun e w' => e = .returned (.bool (decide (x ∈ l))) ∧ w = w' := by
  obtain ⟨A, n, c, rfl, -, -⟩ := h.form'
  go_enter Tryz.func134, Tryz.ntmps134
  go_wp2_with fail
  refine (index_any _ l x _ h).mono ?_
  rintro e w1 ⟨z, rfl, hz, rfl⟩
  have Hz := Lib.hid hz
  clear hz
  by_cases hp : 0 ≤ z
  · have hin : Hid (decide (x ∈ l) = true) := decide_eq_true (Hz.out.2 hp)
    go_wp2_with fail
    go_ret
    exact ⟨by rw [hin.out]; rfl, rfl⟩
  · have hin : Hid (decide (x ∈ l) = false) := decide_eq_false (fun h => hp (Hz.out.1 h))
    go_wp2_with fail
    go_ret
    have hd : decide (0 ≤ z) = false := decide_eq_false (by omega)
    exact ⟨by rw [hin.out, ← hd]; rfl, rfl⟩
/-- A crew with its plan and the plan's rows, by value. -/
def PCV (w : World) (v : Value) (plan : List Node) (vs : List (List Int)) (c : Crew) : Prop :=
  ∃ A0 n0 c0 A5 n5 c5 A1 n1 c1 A2 n2 c2 A3 n3 c3 A4 n4 c4, v = .agg #[.slice A0 n0 c0, .slice A5 n5 c5, .slice A1 n1 c1, .slice A2 n2 c2, .slice A3 n3 c3, .slice A4 n4 c4] ∧
    RN w (.slice A0 n0 c0) plan ∧ RL w (.slice A5 n5 c5) vs ∧ RL w (.slice A1 n1 c1) c.deques ∧ RI w (.slice A2 n2 c2) c.counts ∧ RI w (.slice A3 n3 c3) c.done ∧ RL w (.slice A4 n4 c4) c.rows
theorem PCV.new {w w' : World} {v : Value} {plan : List Node} {vs : List (List Int)} {c : Crew} (h : PCV w v plan vs c) (hg : w.grownBy w' none) : PCV w' v plan vs c := by
  obtain ⟨A0, n0, c0, A5, n5, c5, A1, n1, c1, A2, n2, c2, A3, n3, c3, A4, n4, c4, rfl, h0, h5, h1, h2, h3, h4⟩ := h
  exact ⟨_, _, _, _, _, _, _, _, _, _, _, _, _, _, _, _, _, _, rfl, h0.new hg, h5.new hg, h1.new hg, h2.new hg, h3.new hg, h4.new hg⟩
theorem isDone_any (v : Value) (plan : List Node) (vs : List (List Int)) (c : Crew) (x : Int) (w : World) (h : PCV w v plan vs c) : Calls Tryz.prog 113 #[v, .int .i64 x] w fun e w' => e = .returned (.bool (decide (x ∈ c.done))) ∧ w.grownBy w' none := by
  obtain ⟨A0, n0, c0, A5, n5, c5, A1, n1, c1, A2, n2, c2, A3, n3, c3, A4, n4, c4, rfl, h0, h5, h1, h2, h3, h4⟩ := h
  have hB := Blk.new w 78 #[.slice A0 n0 c0, .slice A5 n5 c5, .slice A1 n1 c1, .slice A2 n2 c2, .slice A3 n3 c3, .slice A4 n4 c4]
  have hg := World.grownBy_alloc w (.cells #[.slice A0 n0 c0, .slice A5 n5 c5, .slice A1 n1 c1, .slice A2 n2 c2, .slice A3 n3 c3, .slice A4 n4 c4] 78) none
  clear h0 h5 h1 h2 h4
  have h3' := h3.new hg
  go_enter Tryz.func113, Tryz.ntmps113
  go_upto_region 1 with fail
  generalize w.alloc (.cells #[.slice A0 n0 c0, .slice A5 n5 c5, .slice A1 n1 c1, .slice A2 n2 c2, .slice A3 n3 c3, .slice A4 n4 c4] 78) = W at hB hg h3' ⊢
  have q4 := hB.cell 4
  go_wp2_with fail
  refine (contains_any _ _ x W h3').mono ?_
  rintro e w1 ⟨rfl, rfl⟩
  go_wp2_with fail
  go_ret
  exact ⟨rfl, hg⟩
end Go.Proofs.YtihobnheficpjaaGreatDoor
namespace Go.Proofs.YtihobnheficpjaaGreatDoor
open Go.RowKit

theorem order_len {plan : List Node} {D : List Int} (ho : orderOk plan D = true) : D.length ≤ plan.length := by
  have h := nodup_le (order_nodup ho) (m := (List.range plan.length).map (fun i : Nat => (i : Int))) (fun y hy => by
    obtain ⟨h0, h1, _⟩ := order_closed ho hy
    exact List.mem_map.2 ⟨y.toNat, List.mem_range.2 (by omega), by omega⟩)
  rwa [List.length_map, List.length_range] at h
theorem done_next {plan : List Node} (hv : planValid plan = true) {D : List Int} (ho : orderOk plan D = true) {k : Nat} {x : Int} (hx : D[k]? = some x) :
    countsDone plan (lefts plan (D.take k)) x = some (lefts plan (D.take (k + 1)), newReady plan (lefts plan (D.take k)) x) := by
  obtain ⟨hk, rfl⟩ := List.getElem?_eq_some_iff.1 hx
  obtain ⟨h1, h2, h3, -⟩ := stepOk_iff.1 (order_step ho hk)
  rw [countsDone_ok hv h1 h2 h3, List.take_succ_eq_append_getElem hk]
set_option maxHeartbeats 1600000 in
set_option maxRecDepth 20000 in
theorem implCountsFit_b (v : Value) (plan : List Node) (vs : List (List Int)) (c : Crew) (w : World) (h : PCV w v plan vs c) (hv : planValid plan = true) (ho : orderOk plan c.done = true) {b : Bool} (hb : decide (lefts plan c.done = c.counts) = b) :
    Calls Tryz.prog 59 #[v] w fun e w' => e = .returned (.bool b) ∧ w.grownBy w' none := by
  obtain ⟨A0, n0, c0, A5, n5, c5, A1, n1, c1, A2, n2, c2, A3, n3, c3, A4, n4, c4, rfl, h0, h5, h1, h2, h3, h4⟩ := h
  have hB := Blk.new w 78 #[.slice A0 n0 c0, .slice A5 n5 c5, .slice A1 n1 c1, .slice A2 n2 c2, .slice A3 n3 c3, .slice A4 n4 c4]
  have hg := World.grownBy_alloc w (.cells #[.slice A0 n0 c0, .slice A5 n5 c5, .slice A1 n1 c1, .slice A2 n2 c2, .slice A3 n3 c3, .slice A4 n4 c4] 78) none
  have Hv := Lib.hid hv
  have Ho := Lib.hid ho
  have Hb := Lib.hid hb
  have hn3 := h3.len
  have hn10 : n3 ≤ 10 := by have := order_len ho; have := planValid_len hv; omega
  have Hn3 := Lib.hid hn3
  clear h5 h1 h4 hv ho hb hn3
  go_enter Tryz.func59, Tryz.ntmps59
  go_upto_region 1 with fail
  have k0 := h0.new hg
  have k2 := h2.new hg
  have k3 := h3.new hg
  clear h0 h2 h3
  generalize w.alloc (.cells #[.slice A0 n0 c0, .slice A5 n5 c5, .slice A1 n1 c1, .slice A2 n2 c2, .slice A3 n3 c3, .slice A4 n4 c4] 78) = W at hB hg k0 k2 k3 ⊢
  have q0 := hB.cell 0
  go_wp2_with fail
  refine (implCountsOf_any _ plan W k0 Hv.out).mono ?_
  rintro e w1 ⟨v1, rfl, ho1, hg1⟩
  have B1 := hB.grown hg1 (by simp)
  have q4 := B1.cell 4
  obtain ⟨Ac, nc, cc, rfl⟩ := ho1.ri.val
  have hr1 := ho1.ri
  rw [← lefts_nil] at hr1
  have m0 := k0.new hg1
  have m2 := k2.new hg1
  have m3 := k3.new hg1
  have g1 := gb_trans hg hg1
  clear k0 k2 k3 ho1 hg1 hB hg q0
  go_wp2_with fail
  go_loopg [3, 17] (n3 + 1) (fun mm kv i wr => ∃ k : Nat, k ≤ n3 ∧ mm = n3 + 1 - k ∧ i = .int .i64 k ∧ RI wr kv (lefts plan (c.done.take k)) ∧ w1.grownBy wr none)
  case atStart => exact ⟨0, Nat.zero_le _, rfl, rfl, by exact hr1, gb_refl _ _⟩
  case round =>
    obtain ⟨k, hk, rfl, rfl, hr, hg⟩ := hrel
    clear hr1 q4
    obtain ⟨Ar, nr, cr, rfl⟩ := hr.val
    have B2 := B1.grown hg (by simp)
    have q0 := B2.cell 0
    have q3 := B2.cell 3
    have p0 := m0.new hg
    have p2 := m2.new hg
    have p3 := m3.new hg
    by_cases hlt : k < n3
    · obtain ⟨g, o, x, rfl, hx, x0⟩ := p3.at_ hlt
      have Hd := Lib.hid (done_next Hv.out Ho.out hx)
      clear hx q3
      go_wp2_with fail
      refine (implCountsDone_any _ _ plan (lefts plan (c.done.take k)) x wr p0 hr).mono ?_
      intro e w2 hO
      rw [Hd.out] at hO
      obtain ⟨kv, rv, rfl, o1, o2, hg2⟩ := hO
      obtain ⟨Ak, nk, ck, rfl⟩ := o1.ri.val
      obtain ⟨Aq, nq, cq, rfl⟩ := o2.ri.val
      have r2 := o1.ri
      have g2 := gb_trans hg hg2
      clear hr p0 p2 p3 q0 o1 o2 B2
      go_wp2_with fail
      go_roundg (n3 + 1 - (k + 1))
      case measure => omega
      case rel => exact ⟨k + 1, by omega, rfl, by go_num, r2, g2⟩
    · obtain rfl : n3 = k := by omega
      have he : lefts plan (c.done.take n3) = lefts plan c.done := by rw [List.take_of_length_le (Nat.le_of_eq Hn3.out.symm)]
      rw [he] at hr
      clear he q0 p0 p3
      go_wp2_with fail
      refine (sEqual_b _ _ _ _ wr hr p2 Hb.out).mono ?_
      rintro e w2 ⟨rfl, hg2⟩
      go_wp2_with fail
      go_ret
      exact ⟨rfl, gb_trans g1 (gb_trans hg hg2)⟩
end Go.Proofs.YtihobnheficpjaaGreatDoor
namespace Go.Proofs.YtihobnheficpjaaGreatDoor
open Go.RowKit

def rowFine (vs : List (List Int)) (c : Crew) (i : Nat) : Prop := c.rows.getD i [] = if (i : Int) ∈ c.done then vs.getD i [] else []
def RowsFine (plan : List Node) (vs : List (List Int)) (c : Crew) : Prop := c.rows.length = plan.length ∧ ∀ i, i < c.rows.length → rowFine vs c i
def RowsOut (w : World) (plan : List Node) (vs : List (List Int)) (c : Crew) (e : Ending) (w' : World) : Prop := ∃ b, e = .returned (.bool b) ∧ (b = true ↔ RowsFine plan vs c) ∧ w.grownBy w' none
theorem isDone_b (v : Value) (plan : List Node) (vs : List (List Int)) (c : Crew) (x : Int) (w : World) (h : PCV w v plan vs c) {b : Bool} (hb : decide (x ∈ c.done) = b) : Calls Tryz.prog 113 #[v, .int .i64 x] w fun e w' => e = .returned (.bool b) ∧ w.grownBy w' none := hb ▸ isDone_any v plan vs c x w h
theorem PCV.form {w : World} {A0 : Option Addr} {n0 c0 : Nat} {A5 : Option Addr} {n5 c5 : Nat} {A1 : Option Addr} {n1 c1 : Nat} {A2 : Option Addr} {n2 c2 : Nat} {A3 : Option Addr} {n3 c3 : Nat} {A4 : Option Addr} {n4 c4 : Nat} {plan : List Node} {vs : List (List Int)} {c : Crew} (h : PCV w (.agg #[.slice A0 n0 c0, .slice A5 n5 c5, .slice A1 n1 c1, .slice A2 n2 c2, .slice A3 n3 c3, .slice A4 n4 c4]) plan vs c) :
    RN w (.slice A0 n0 c0) plan ∧ RL w (.slice A5 n5 c5) vs ∧ RL w (.slice A4 n4 c4) c.rows := by
  obtain ⟨A0', n0', c0', A5', n5', c5', A1', n1', c1', A2', n2', c2', A3', n3', c3', A4', n4', c4', e, h0, h5, h1, h2, h3, h4⟩ := h
  injection e with e
  injection e with e
  injection e with e0 e
  injection e with e5 e
  injection e with e1 e
  injection e with e2 e
  injection e with e3 e
  injection e with e4 e
  rw [e0, e5, e4]
  exact ⟨h0, h5, h4⟩
set_option maxHeartbeats 1600000 in
set_option maxRecDepth 20000 in
theorem implRowsFit_any (v : Value) (plan : List Node) (vs : List (List Int)) (c : Crew) (w : World) (h : PCV w v plan vs c) (hvs : vs.length = plan.length) :
    Calls Tryz.prog 61 #[v] w (RowsOut w plan vs c) := by
  obtain ⟨A0, n0, c0, A5, n5, c5, A1, n1, c1, A2, n2, c2, A3, n3, c3, A4, n4, c4, rfl, h0, h5, h1, h2, h3, h4⟩ := id h
  have hB := Blk.new w 78 #[.slice A0 n0 c0, .slice A5 n5 c5, .slice A1 n1 c1, .slice A2 n2 c2, .slice A3 n3 c3, .slice A4 n4 c4]
  have hg := World.grownBy_alloc w (.cells #[.slice A0 n0 c0, .slice A5 n5 c5, .slice A1 n1 c1, .slice A2 n2 c2, .slice A3 n3 c3, .slice A4 n4 c4] 78) none
  have hn0 := h0.len
  have hn4 := h4.len
  have hn5 := h5.len
  have hle4 : n4 ≤ 9223372036854775807 := by
    obtain ⟨xs, t1, -⟩ := id h4
    have := t1.le
    omega
  have P0 := h.new hg
  have Hn0 := Lib.hid hn0
  have Hn4 := Lib.hid hn4
  clear h0 h1 h2 h3 h4 h5
  by_cases hll : n4 = n0
  · subst hll
    have hn54 : n5 = n4 := by omega
    subst hn54
    clear hn0 hn4 hn5 hvs h
    go_enter Tryz.func61, Tryz.ntmps61
    go_upto_region 1 with fail
    generalize w.alloc (.cells #[.slice A0 n5 c0, .slice A5 n5 c5, .slice A1 n1 c1, .slice A2 n2 c2, .slice A3 n3 c3, .slice A4 n5 c4] 78) = W at hB hg P0 ⊢
    have q0 := hB.cell 0
    have q5 := hB.cell 5
    go_wp2_with fail
    go_loopg [18] (n5 + 1) (fun mm i wr => ∃ k : Nat, k ≤ n5 ∧ mm = n5 + 1 - k ∧ i = .int .i64 k ∧ W.grownBy wr none ∧ Hid (∀ i, i < k → rowFine vs c i))
    case atStart => exact ⟨0, Nat.zero_le _, rfl, rfl, gb_refl _ _, fun i hi => absurd hi (Nat.not_lt_zero _)⟩
    case round =>
      clear q0 q5
      obtain ⟨k, hk, rfl, rfl, hgr, Hk⟩ := hrel
      have B2 := hB.grown hgr (by simp)
      have P2 := P0.new hgr
      have gw := gb_trans hg hgr
      by_cases hlt : k < n5
      · obtain ⟨-, p5, p4⟩ := P2.form
        obtain ⟨g, o, l, B, m, e', rfl, hl, x0, hrl, hml, -, -⟩ := p4.at_ hlt
        obtain ⟨g5, o5, l5, B5, m5, e5, rfl, hl5, x5, hrl5, -, -, -⟩ := p5.at_ hlt
        have Hl := Lib.hid hl
        have Hl5 := Lib.hid hl5
        have Hml := Lib.hid hml
        clear hl hl5 hml p4 p5
        have q0 := B2.cell 0
        have q1 := B2.cell 1
        have q2 := B2.cell 2
        have q3 := B2.cell 3
        have q4 := B2.cell 4
        have q5 := B2.cell 5
        have hki : (k : Int) < (n5 : Int) := by omega
        have Hf1 : Hid (c.rows.getD k [] = l) := by show _ = _; rw [List.getD_eq_getElem?_getD, Hl.out]; rfl
        have Hf2 : Hid (vs.getD k [] = l5) := by show _ = _; rw [List.getD_eq_getElem?_getD, Hl5.out]; rfl
        by_cases hd : (k : Int) ∈ c.done
        · have Hd : Hid (decide ((k : Int) ∈ c.done) = true) := decide_eq_true hd
          have Hin := Lib.hid hd
          clear hd
          go_wp2_with fail
          refine (isDone_b _ plan vs c k wr P2 Hd.out).mono ?_
          rintro e w2 ⟨rfl, hg2⟩
          have g2 := gb_trans hgr hg2
          have B3 := B2.grown hg2 (by simp)
          have r1 := hrl.new hg2
          have r5 := hrl5.new hg2
          have y5 := cell_new x5 hg2
          have y1 := B3.cell 1
          clear q0 q1 q2 q3 q4 q5 hrl hrl5 x0 x5 P2
          by_cases heq : l = l5
          · have hfine : Hid (rowFine vs c k) := by
              show rowFine vs c k
              unfold rowFine
              rw [if_pos Hin.out, Hf1.out, Hf2.out]
              exact heq
            have He : Hid (decide (l = l5) = true) := decide_eq_true heq
            clear heq
            go_wp2_with fail
            refine (sEqual_b _ _ _ _ w2 r1 r5 He.out).mono ?_
            rintro e w3 ⟨rfl, hg3⟩
            have g3 := gb_trans g2 hg3
            go_wp2_with fail
            go_roundg (n5 + 1 - (k + 1))
            case measure => omega
            case rel => exact ⟨k + 1, by omega, rfl, by go_num, g3, fun i hi => by
              by_cases e2 : i = k
              · subst e2; exact hfine.out
              · exact Hk.out i (by omega)⟩
          · have hno : Hid (¬ RowsFine plan vs c) := fun e2 => by
              have h1 := e2.2 k (by rw [← Hn4.out]; exact hlt)
              unfold rowFine at h1
              rw [if_pos Hin.out, Hf1.out, Hf2.out] at h1
              exact heq h1
            have He : Hid (decide (l = l5) = false) := decide_eq_false heq
            clear heq
            go_wp2_with fail
            refine (sEqual_b _ _ _ _ w2 r1 r5 He.out).mono ?_
            rintro e w3 ⟨rfl, hg3⟩
            have g3 := gb_trans hg (gb_trans g2 hg3)
            go_wp2_with fail
            go_ret
            exact ⟨false, rfl, ⟨fun e2 => (by cases e2), fun e2 => absurd e2 hno.out⟩, g3⟩
        · have Hd : Hid (decide ((k : Int) ∈ c.done) = false) := decide_eq_false hd
          have Hin := Lib.hid hd
          clear hd
          go_wp2_with fail
          refine (isDone_b _ plan vs c k wr P2 Hd.out).mono ?_
          rintro e w2 ⟨rfl, hg2⟩
          have g2 := gb_trans hgr hg2
          clear q0 q1 q2 q3 q4 q5 hrl5 x0 x5 P2
          by_cases heq : m = 0
          · subst heq
            have hfine : Hid (rowFine vs c k) := by
              show rowFine vs c k
              unfold rowFine
              rw [if_neg Hin.out, Hf1.out]
              exact List.eq_nil_of_length_eq_zero Hml.out.symm
            go_wp2_with fail
            go_roundg (n5 + 1 - (k + 1))
            case measure => omega
            case rel => exact ⟨k + 1, by omega, rfl, by go_num, g2, fun i hi => by
              by_cases e2 : i = k
              · subst e2; exact hfine.out
              · exact Hk.out i (by omega)⟩
          · have hno : Hid (¬ RowsFine plan vs c) := fun e2 => by
              have h1 := e2.2 k (by rw [← Hn4.out]; exact hlt)
              unfold rowFine at h1
              rw [if_neg Hin.out, Hf1.out] at h1
              have := Hml.out
              rw [h1] at this
              exact heq this
            have hb : ((m : Int) == 0) = false := by simpa using heq
            have g3 := gb_trans hg g2
            go_wp2_with fail
            go_ret
            exact ⟨false, rfl, ⟨fun e2 => (by cases e2), fun e2 => absurd e2 hno.out⟩, g3⟩
      · obtain rfl : n5 = k := by omega
        have hyes : Hid (RowsFine plan vs c) := ⟨by rw [← Hn4.out, ← Hn0.out], fun i hi => Hk.out i (by rw [Hn4.out]; exact hi)⟩
        clear P2 B2
        go_wp2_with fail
        go_ret
        exact ⟨true, rfl, ⟨fun _ => hyes.out, fun _ => rfl⟩, gw⟩
  · have hno : Hid (¬ RowsFine plan vs c) := fun e => hll (by rw [Hn4.out, Hn0.out]; exact e.1)
    have hb : ((n4 : Int) == (n0 : Int)) = false := by simp only [beq_eq_false_iff_ne, ne_eq]; omega
    clear hn0 hn4 hn5 hvs h hll
    go_enter Tryz.func61, Tryz.ntmps61
    go_upto_region 1 with fail
    generalize w.alloc (.cells #[.slice A0 n0 c0, .slice A5 n5 c5, .slice A1 n1 c1, .slice A2 n2 c2, .slice A3 n3 c3, .slice A4 n4 c4] 78) = W at hB hg P0 ⊢
    have q0 := hB.cell 0
    have q5 := hB.cell 5
    go_wp2_with fail
    go_ret
    exact ⟨false, rfl, ⟨fun e2 => (by cases e2), fun e2 => absurd e2 hno.out⟩, hg⟩
end Go.Proofs.YtihobnheficpjaaGreatDoor
