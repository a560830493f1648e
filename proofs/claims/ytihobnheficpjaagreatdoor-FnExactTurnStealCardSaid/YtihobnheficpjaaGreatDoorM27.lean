/- Walks: impl.workersFit, impl.ScheduleTurns where there are workers enough. · Walks: impl.CrewValid. · Walks: impl.CrewLeft, impl.isWorker. -/
import Derived.Test.YtihobnheficpjaaGreatDoorM25
import Derived.Test.YtihobnheficpjaaGreatDoorM26
namespace Go.Proofs.YtihobnheficpjaaGreatDoor
open Go.RowKit

theorem workersFit_b (k : Int) (w : World) {b : Bool} (hb : (decide (1 ≤ k) && decide (k ≤ 4)) = b) :
    Calls Tryz.prog 57 #[.int .i64 k] w fun e w' => e = .returned (.bool b) ∧ w = w' := by
  subst hb
  by_cases h0 : 1 ≤ k
  · by_cases h1 : k ≤ 4
    · rw [decide_eq_true h0, decide_eq_true h1]
      go_enter Tryz.func57, Tryz.ntmps57
      go_wp2_with fail
      go_ret
      exact ⟨rfl, rfl⟩
    · rw [decide_eq_true h0, decide_eq_false h1]
      go_enter Tryz.func57, Tryz.ntmps57
      go_wp2_with fail
      go_ret
      exact ⟨rfl, rfl⟩
  · rw [decide_eq_false h0]
    go_enter Tryz.func57, Tryz.ntmps57
    go_wp2_with fail
    go_ret
    exact ⟨by simp, rfl⟩
end Go.Proofs.YtihobnheficpjaaGreatDoor
namespace Go.Proofs.YtihobnheficpjaaGreatDoor
open Go.RowKit

theorem rowsFine_iff {plan : List Node} {c : Crew} : RowsFine plan (values plan) c ↔ c.rows.length = plan.length ∧ ∀ i, i < plan.length → c.rows[i]? = some (rowWant plan c.done i) := by
  unfold RowsFine
  constructor
  · rintro ⟨h1, h2⟩
    refine ⟨h1, fun i hi => ?_⟩
    have h3 := h2 i (by omega)
    unfold rowFine at h3
    rw [List.getD_eq_getElem?_getD, List.getElem?_eq_getElem (by omega)] at h3
    rw [List.getElem?_eq_getElem (by omega)]
    exact congrArg some h3
  · rintro ⟨h1, h2⟩
    refine ⟨h1, fun i hi => ?_⟩
    have h3 := h2 i (by omega)
    unfold rowFine
    rw [List.getD_eq_getElem?_getD, h3]
    rfl
theorem crewOk_parts {plan : List Node} {c : Crew} : CrewOk plan c ↔ planValid plan = true ∧ (1 ≤ c.deques.length ∧ c.deques.length ≤ 4) ∧ orderOk plan c.done = true ∧ lefts plan c.done = c.counts ∧ c.deques.flatten.Perm (readyOf plan c.done) ∧ RowsFine plan (values plan) c := by
  rw [rowsFine_iff]
  constructor
  · intro h
    exact ⟨h.pv, ⟨h.d1, h.d4⟩, h.order, h.counts.symm, h.dq, h.rl, h.rows⟩
  · rintro ⟨h1, ⟨h2, h3⟩, h4, h5, h6, h7, h8⟩
    exact ⟨h1, h2, h3, h4, h5.symm, h7, h6, h8⟩
theorem orderBegins_b (v dv : Value) (plan : List Node) (D : List Int) (w : World) (h : RN w v plan) (hd : RI w dv D) (hv : planValid plan = true) {b : Bool} (hb : orderOk plan D = b) :
    Calls Tryz.prog 58 #[v, dv] w fun e w' => e = .returned (.bool b) ∧ w.grownBy w' none := hb ▸ orderBegins_any v dv plan D w h hd hv
theorem crewValid_off {plan : List Node} {c : Crew} (h : ¬ CrewOk plan c) : crewValid plan c = false := by
  cases hc : crewValid plan c with
  | false => rfl
  | true => exact absurd (crewValid_iff.1 hc) h
set_option maxHeartbeats 1600000 in
set_option maxRecDepth 20000 in
theorem implCrewValid_any (pv v : Value) (plan : List Node) (c : Crew) (w : World) (hp : RN w pv plan) (h : CV w v c) (hfit : ∀ d ∈ c.deques, d.length ≤ 1048576) :
    Calls Tryz.prog 20 #[pv, v] w fun e w' => e = .returned (.bool (crewValid plan c)) ∧ w.grownBy w' none := by
  obtain ⟨A0, n0, c0, rfl, -, -, -⟩ := hp.form'
  obtain ⟨A1, n1, c1, A2, n2, c2, A3, n3, c3, A4, n4, c4, rfl, h1, h2, h3, h4⟩ := h.form
  have hB := Blk.new w 27 #[.slice A1 n1 c1, .slice A2 n2 c2, .slice A3 n3 c3, .slice A4 n4 c4]
  have hg := World.grownBy_alloc w (.cells #[.slice A1 n1 c1, .slice A2 n2 c2, .slice A3 n3 c3, .slice A4 n4 c4] 27) none
  have Hn1 := Lib.hid h1.len
  have Hfit := Lib.hid hfit
  have fin : ∀ w' b, w.grownBy w' none → crewValid plan c = b → (Ending.returned (.bool b) = .returned (.bool (crewValid plan c)) ∧ w.grownBy w' none) := fun w' b hg hr => ⟨by rw [hr], hg⟩
  have k0 := hp.new hg
  have k1 := h1.new hg
  have k2 := h2.new hg
  have k3 := h3.new hg
  have k4 := h4.new hg
  clear hp h h1 h2 h3 h4 hfit
  go_enter Tryz.func20, Tryz.ntmps20
  go_upto_region 1 with fail
  generalize w.alloc (.cells #[.slice A1 n1 c1, .slice A2 n2 c2, .slice A3 n3 c3, .slice A4 n4 c4] 27) = W at hB hg k0 k1 k2 k3 k4 ⊢
  go_wp2_with fail
  refine (valuesOf_any _ plan W k0).mono ?_
  rintro e w1 ⟨v1, rfl, ho1, hg1⟩
  have B1 := hB.grown hg1 (by simp)
  have m0 := k0.new hg1
  have m1 := k1.new hg1
  have m2 := k2.new hg1
  have m3 := k3.new hg1
  have m4 := k4.new hg1
  have g1 := gb_trans hg hg1
  have q0 := B1.cell 0
  have q1 := B1.cell 1
  have q2 := B1.cell 2
  have q3 := B1.cell 3
  obtain ⟨Av, nv, cv, rfl⟩ := ho1.rl.val
  clear k0 k1 k2 k3 k4 hB hg hg1
  by_cases hv : planValid plan = true
  · have Hv := Lib.hid hv
    rw [hv, if_pos rfl] at ho1
    rw [hv]
    have r5 := ho1.rl
    clear hv ho1
    by_cases hin : 1 ≤ n1 ∧ n1 ≤ 4
    · have Hin : Hid ((decide (1 ≤ (n1 : Int)) && decide ((n1 : Int) ≤ 4)) = true) := by show _ = _; simp; omega
      have hd4 : 1 ≤ c.deques.length ∧ c.deques.length ≤ 4 := by have := Hn1.out; omega
      by_cases ho : orderOk plan c.done = true
      · have Ho := Lib.hid ho
        clear ho hin
        go_wp2_with fail
        refine (workersFit_b _ _ Hin.out).mono ?_
        rintro e w2 ⟨rfl, rfl⟩
        go_wp2_with fail
        refine (orderBegins_b _ _ plan c.done w1 m0 m3 Hv.out Ho.out).mono ?_
        rintro e w2 ⟨rfl, hg2⟩
        have B2 := B1.grown hg2 (by simp)
        have q0 := B2.cell 0
        have q1 := B2.cell 1
        have q2 := B2.cell 2
        have q3 := B2.cell 3
        have P2 : PCV w2 (.agg #[.slice A0 n0 c0, .slice Av nv cv, .slice A1 n1 c1, .slice A2 n2 c2, .slice A3 n3 c3, .slice A4 n4 c4]) plan (values plan) c := ⟨_, _, _, _, _, _, _, _, _, _, _, _, _, _, _, _, _, _, rfl, m0.new hg2, r5.new hg2, m1.new hg2, m2.new hg2, m3.new hg2, m4.new hg2⟩
        have hP := Blk.new w2 78 #[.slice A0 n0 c0, .slice Av nv cv, .slice A1 n1 c1, .slice A2 n2 c2, .slice A3 n3 c3, .slice A4 n4 c4]
        have hgP := World.grownBy_alloc w2 (.cells #[.slice A0 n0 c0, .slice Av nv cv, .slice A1 n1 c1, .slice A2 n2 c2, .slice A3 n3 c3, .slice A4 n4 c4] 78) none
        have P3 := P2.new hgP
        have g3 := gb_trans (gb_trans g1 hg2) hgP
        clear m0 m1 m2 m3 m4 r5 B1 P2 hg2 g1
        go_upto_region 5 with fail
        generalize w2.alloc (.cells #[.slice A0 n0 c0, .slice Av nv cv, .slice A1 n1 c1, .slice A2 n2 c2, .slice A3 n3 c3, .slice A4 n4 c4] 78) = w3 at hP hgP P3 g3 ⊢
        clear hgP B2 q0 q1 q2 q3
        have s0 := hP.cell 0
        have s1 := hP.cell 1
        have s2 := hP.cell 2
        have s3 := hP.cell 3
        have s4 := hP.cell 4
        have s5 := hP.cell 5
        by_cases hc : lefts plan c.done = c.counts
        · have Hc : Hid (decide (lefts plan c.done = c.counts) = true) := decide_eq_true hc
          have Hc2 := Lib.hid hc
          clear hc
          go_wp2_with fail
          refine (implCountsFit_b _ plan (values plan) c w3 P3 Hv.out Ho.out Hc.out).mono ?_
          rintro e w4 ⟨rfl, hg4⟩
          have P4 := P3.new hg4
          have hP4 := hP.grown hg4 (by simp)
          have g4 := gb_trans g3 hg4
          clear s0 s1 s2 s3 s4 s5 P3 hP hg4 g3
          have s0 := hP4.cell 0
          have s1 := hP4.cell 1
          have s2 := hP4.cell 2
          have s3 := hP4.cell 3
          have s4 := hP4.cell 4
          have s5 := hP4.cell 5
          go_wp2_with fail
          refine (implDequesFit_any _ plan (values plan) c w4 P4 Hv.out hd4.2 Hfit.out).mono ?_
          rintro e w5 ⟨b2, rfl, hb2, hg5⟩
          have P5 := P4.new hg5
          have hP5 := hP4.grown hg5 (by simp)
          have g5 := gb_trans g4 hg5
          have Hb2 := Lib.hid hb2
          clear s0 s1 s2 s3 s4 s5 P4 hP4 hg5 g4 hb2
          have s0 := hP5.cell 0
          have s1 := hP5.cell 1
          have s2 := hP5.cell 2
          have s3 := hP5.cell 3
          have s4 := hP5.cell 4
          have s5 := hP5.cell 5
          cases b2 with
          | false =>
            have hfin := Lib.hid (fin w5 false g5 (crewValid_off (fun hk => by have := Hb2.out.2 (crewOk_parts.1 hk).2.2.2.2.1; cases this)))
            clear fin
            go_wp2_with fail
            go_ret
            exact hfin.out
          | true =>
            go_wp2_with fail
            refine (implRowsFit_any _ plan (values plan) c w5 P5 (values_len plan)).mono ?_
            rintro e w6 ⟨b3, rfl, hb3, hg6⟩
            have Hb3 := Lib.hid hb3
            have g6 := gb_trans g5 hg6
            clear hb3 hg6
            cases b3 with
            | false =>
              have hfin := Lib.hid (fin w6 false g6 (crewValid_off (fun hk => by have := Hb3.out.2 (crewOk_parts.1 hk).2.2.2.2.2; cases this)))
              clear fin
              go_wp2_with fail
              go_ret
              exact hfin.out
            | true =>
              have hfin := Lib.hid (fin w6 true g6 (crewValid_iff.2 (crewOk_parts.2 ⟨Hv.out, hd4, Ho.out, Hc2.out, Hb2.out.1 (by first | trivial | rfl), Hb3.out.1 (by first | trivial | rfl)⟩)))
              clear fin
              go_wp2_with fail
              go_ret
              exact hfin.out
        · have Hc : Hid (decide (lefts plan c.done = c.counts) = false) := decide_eq_false hc
          have hno : Hid (crewValid plan c = false) := crewValid_off (fun hk => hc (crewOk_parts.1 hk).2.2.2.1)
          clear hc
          go_wp2_with fail
          refine (implCountsFit_b _ plan (values plan) c w3 P3 Hv.out Ho.out Hc.out).mono ?_
          rintro e w4 ⟨rfl, hg4⟩
          have hfin := Lib.hid (fin w4 false (gb_trans g3 hg4) hno.out)
          clear fin
          go_wp2_with fail
          go_ret
          exact hfin.out
      · have ho' : orderOk plan c.done = false := by simpa using ho
        have Ho := Lib.hid ho'
        have hno : Hid (crewValid plan c = false) := crewValid_off (fun hk => ho (crewOk_parts.1 hk).2.2.1)
        clear ho ho' hin
        go_wp2_with fail
        refine (workersFit_b _ _ Hin.out).mono ?_
        rintro e w2 ⟨rfl, rfl⟩
        go_wp2_with fail
        refine (orderBegins_b _ _ plan c.done w1 m0 m3 Hv.out Ho.out).mono ?_
        rintro e w2 ⟨rfl, hg2⟩
        have hfin := Lib.hid (fin w2 false (gb_trans g1 hg2) hno.out)
        clear fin
        go_wp2_with fail
        go_ret
        exact hfin.out
    · have Hin : Hid ((decide (1 ≤ (n1 : Int)) && decide ((n1 : Int) ≤ 4)) = false) := by
        show _ = _
        rw [Bool.and_eq_false_iff, decide_eq_false_iff_not, decide_eq_false_iff_not]
        omega
      have hno : Hid (crewValid plan c = false) := crewValid_off (fun hk => hin (by have := (crewOk_parts.1 hk).2.1; have := Hn1.out; omega))
      clear hin
      go_wp2_with fail
      refine (workersFit_b _ _ Hin.out).mono ?_
      rintro e w2 ⟨rfl, rfl⟩
      have hfin := Lib.hid (fin w1 false g1 hno.out)
      clear fin
      go_wp2_with fail
      go_ret
      exact hfin.out
  · have hv' : planValid plan = false := by simpa using hv
    have hno : Hid (crewValid plan c = false) := crewValid_off (fun hk => hv (crewOk_parts.1 hk).1)
    have hfin := Lib.hid (fin w1 false g1 hno.out)
    rw [hv']
    clear fin hv hv' ho1
    go_wp2_with fail
    go_ret
    exact hfin.out
end Go.Proofs.YtihobnheficpjaaGreatDoor
namespace Go.Proofs.YtihobnheficpjaaGreatDoor
open Go.RowKit

theorem implCrewValid_b (pv v : Value) (plan : List Node) (c : Crew) (w : World) (hp : RN w pv plan) (h : CV w v c) (hfit : ∀ d ∈ c.deques, d.length ≤ 1048576) {b : Bool} (hb : crewValid plan c = b) :
    Calls Tryz.prog 20 #[pv, v] w fun e w' => e = .returned (.bool b) ∧ w.grownBy w' none := hb ▸ implCrewValid_any pv v plan c w hp h hfit
set_option maxRecDepth 20000 in
theorem implCrewLeft_any (pv v : Value) (plan : List Node) (c : Crew) (w : World) (hp : RN w pv plan) (h : CV w v c) (hfit : ∀ d ∈ c.deques, d.length ≤ 1048576) :
    Calls Tryz.prog 40 #[pv, v] w fun e w' => e = .returned (.int .i64 (crewLeft plan c)) ∧ w.grownBy w' none := by
  obtain ⟨A0, n0, c0, rfl, -, hn0, -⟩ := hp.form'
  obtain ⟨A1, n1, c1, A2, n2, c2, A3, n3, c3, A4, n4, c4, rfl, h1, h2, h3, h4⟩ := h.form
  have Hn0 := Lib.hid hn0
  have Hn3 := Lib.hid h3.len
  have hB := h.box
  have hg := World.grownBy_alloc w (.cells #[.slice A1 n1 c1, .slice A2 n2 c2, .slice A3 n3 c3, .slice A4 n4 c4] 27) none
  have k0 := hp.new hg
  have Hfit := Lib.hid hfit
  clear hn0 h1 h2 h3 h4 hp h hfit
  by_cases hv : crewValid plan c = true
  · have Hv := Lib.hid hv
    have hok := crewValid_iff.1 hv
    have hn10 : n0 ≤ 10 := by have := planValid_len hok.pv; have := Hn0.out; omega
    have hn3 : n3 ≤ n0 := by have := order_len hok.order; have := Hn0.out; have := Hn3.out; omega
    have Hr : Hid (crewLeft plan c = (n0 : Int) - (n3 : Int)) := by
      show _ = _
      unfold crewLeft
      rw [if_pos hv, Hn0.out, Hn3.out]
    clear hv hok
    go_enter Tryz.func40, Tryz.ntmps40
    go_upto_region 1 with fail
    generalize w.alloc (.cells #[.slice A1 n1 c1, .slice A2 n2 c2, .slice A3 n3 c3, .slice A4 n4 c4] 27) = W at hB hg k0 ⊢
    have d0 := hB.d0
    have d1 := hB.d1
    have d2 := hB.d2
    have d3 := hB.d3
    go_wp2_with fail
    refine (implCrewValid_b _ _ plan c W k0 hB.cv Hfit.out Hv.out).mono ?_
    rintro e w1 ⟨rfl, hg1⟩
    have B1 := hB.new hg1
    clear d0 d1 d2 d3
    have d2 := B1.d2
    have g1 := gb_trans hg hg1
    have hw : IntKind.i64.wrap ((n0 : Int) - (n3 : Int)) = (n0 : Int) - (n3 : Int) := IntWalk.i64_in _ (by omega)
    go_wp2_with fail
    go_ret
    exact ⟨by rw [Hr.out]; rfl, g1⟩
  · have hv' : crewValid plan c = false := by simpa using hv
    have Hv := Lib.hid hv'
    have Hr : Hid (crewLeft plan c = -1) := by
      show _ = _
      unfold crewLeft
      rw [if_neg hv]
    clear hv hv'
    go_enter Tryz.func40, Tryz.ntmps40
    go_upto_region 1 with fail
    generalize w.alloc (.cells #[.slice A1 n1 c1, .slice A2 n2 c2, .slice A3 n3 c3, .slice A4 n4 c4] 27) = W at hB hg k0 ⊢
    have d0 := hB.d0
    have d1 := hB.d1
    have d2 := hB.d2
    have d3 := hB.d3
    go_wp2_with fail
    refine (implCrewValid_b _ _ plan c W k0 hB.cv Hfit.out Hv.out).mono ?_
    rintro e w1 ⟨rfl, hg1⟩
    have g1 := gb_trans hg hg1
    go_wp2_with fail
    go_ret
    exact ⟨by rw [Hr.out]; rfl, g1⟩
theorem implIsWorker_b (v : Value) (c : Crew) (x : Int) (w : World) (h : CV w v c) {b : Bool} (hb : isWorker c x = b) :
    Calls Tryz.prog 84 #[v, .int .i64 x] w fun e w' => e = .returned (.bool b) ∧ w.grownBy w' none := by
  subst hb
  obtain ⟨A1, n1, c1, A2, n2, c2, A3, n3, c3, A4, n4, c4, rfl, h1, h2, h3, h4⟩ := h.form
  have Hn1 := Lib.hid h1.len
  have hB := h.box
  have hg := World.grownBy_alloc w (.cells #[.slice A1 n1 c1, .slice A2 n2 c2, .slice A3 n3 c3, .slice A4 n4 c4] 27) none
  clear h1 h2 h3 h4 h
  have fin : ∀ w' b, w.grownBy w' none → isWorker c x = b → (Ending.returned (.bool b) = .returned (.bool (isWorker c x)) ∧ w.grownBy w' none) := fun w' b hg hr => ⟨by rw [hr], hg⟩
  have hoff : ¬ (0 ≤ x ∧ x < n1) → isWorker c x = false := fun hno => by
    cases hw : isWorker c x with
    | false => rfl
    | true => exact absurd (by have := isWorker_iff.1 hw; have := Hn1.out; omega) hno
  by_cases h0 : 0 ≤ x
  · by_cases hx : x < (n1 : Int)
    · have Hr : Hid (isWorker c x = true) := isWorker_iff.2 ⟨h0, by have := Hn1.out; omega⟩
      clear hoff
      go_enter Tryz.func84, Tryz.ntmps84
      go_upto_region 1 with fail
      generalize w.alloc (.cells #[.slice A1 n1 c1, .slice A2 n2 c2, .slice A3 n3 c3, .slice A4 n4 c4] 27) = W at hB hg ⊢
      have d0 := hB.d0
      have hfin := Lib.hid (fin W true hg Hr.out)
      clear fin
      go_wp2_with fail
      go_ret
      exact hfin.out
    · have Hr : Hid (isWorker c x = false) := hoff (fun e => hx e.2)
      clear hoff
      go_enter Tryz.func84, Tryz.ntmps84
      go_upto_region 1 with fail
      generalize w.alloc (.cells #[.slice A1 n1 c1, .slice A2 n2 c2, .slice A3 n3 c3, .slice A4 n4 c4] 27) = W at hB hg ⊢
      have d0 := hB.d0
      have hfin := Lib.hid (fin W false hg Hr.out)
      clear fin
      go_wp2_with fail
      go_ret
      exact hfin.out
  · have Hr : Hid (isWorker c x = false) := hoff (fun e => h0 e.1)
    clear hoff
    go_enter Tryz.func84, Tryz.ntmps84
    go_upto_region 1 with fail
    generalize w.alloc (.cells #[.slice A1 n1 c1, .slice A2 n2 c2, .slice A3 n3 c3, .slice A4 n4 c4] 27) = W at hB hg ⊢
    have hfin := Lib.hid (fin W false hg Hr.out)
    clear fin
    go_wp2_with fail
    go_ret
    exact hfin.out
end Go.Proofs.YtihobnheficpjaaGreatDoor
