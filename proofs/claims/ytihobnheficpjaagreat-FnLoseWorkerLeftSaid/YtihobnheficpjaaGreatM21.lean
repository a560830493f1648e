/- Walks: spec.TurnSteal. (Printed by gen_steal.py.) · Walks: spec.TurnFrom, spec.TurnNext. · Walks: spec.LoseWorker. -/
import Derived.Test.YtihobnheficpjaaGreatM20
namespace Go.Proofs.YtihobnheficpjaaGreat
open Go.RowKit

theorem turnSteal_bad {plan : List Node} {c : Crew} {w f : Int} (h : crewValid plan c = false) : turnSteal plan c w f = none := by unfold turnSteal; rw [h]; rfl
theorem turnSteal_out {plan : List Node} {c : Crew} {w f : Int} (h : isWorker c w = false) : turnSteal plan c w f = none := by unfold turnSteal; rw [h, Bool.and_false]; rfl
theorem turnSteal_out2 {plan : List Node} {c : Crew} {w f : Int} (h : isWorker c f = false) : turnSteal plan c w f = none := by unfold turnSteal; rw [h, Bool.and_false]; rfl
theorem turnSteal_self {plan : List Node} {c : Crew} {w : Int} : turnSteal plan c w w = none := by unfold turnSteal; simp
theorem turnSteal_full {plan : List Node} {c : Crew} {k : Nat} {f : Int} {d : List Int} (hd : c.deques[k]? = some d) (h : d ≠ []) : turnSteal plan c (k : Int) f = none := by
  unfold turnSteal
  rw [Int.toNat_natCast, List.getD_eq_getElem?_getD, hd]
  simp [h]
theorem turnSteal_eq {plan : List Node} {c : Crew} {k f : Nat} (hv : crewValid plan c = true) (hk : k < c.deques.length) (hf : f < c.deques.length) (hne : k ≠ f) (he : c.deques[k]? = some []) {d : List Int} (hd : c.deques[f]? = some d) : turnSteal plan c (k : Int) (f : Int) = (dequeSteal d).map fun x => doNode plan { c with deques := c.deques.set f x.1 } k x.2 := by
  have H := crewValid_iff.1 hv
  have hw : isWorker c (k : Int) = true := isWorker_iff.2 ⟨Int.natCast_nonneg k, by omega⟩
  have hw2 : isWorker c (f : Int) = true := isWorker_iff.2 ⟨Int.natCast_nonneg f, by omega⟩
  have hne' : ¬ (k : Int) = (f : Int) := by omega
  unfold turnSteal dequeSteal
  rw [hv, hw, hw2, H.deque hd, Int.toNat_natCast, Int.toNat_natCast, List.getD_eq_getElem?_getD, he, List.getD_eq_getElem?_getD, hd, decide_eq_false hne']
  simp only [Option.getD_some, decide_true, Bool.not_false, Bool.and_self, if_true]
  cases d <;> rfl
set_option maxHeartbeats 6400000 in
set_option maxRecDepth 20000 in
theorem specTurnSteal_any (pv v : Value) (plan : List Node) (c : Crew) (wk fk : Int) (w : World) (hp : RN w pv plan) (h : CV w v c) (hpl : plan.length ≤ 1000000000) (hfit : c.deques.length ≤ 1048576 ∧ ∀ d ∈ c.deques, d.length ≤ 1048576) :
    Calls Tryz.prog 71 #[pv, v, .int .i64 wk, .int .i64 fk] w (TurnOut w (turnSteal plan c wk fk)) := by
  obtain ⟨A, n, cp, rfl, -, hn, -⟩ := hp.form'
  obtain ⟨A1, n1, c1, A2, n2, c2, A3, n3, c3, A4, n4, c4, rfl, h1, -, -, -⟩ := h.form
  have B0 := Begun.start h
  have hn1 := h1.len
  have hn1b : n1 ≤ 1048576 := by omega
  have Hn1 := Lib.hid hn1
  have Hfit := Lib.hid hfit.2
  clear hn hn1 h1 h hfit
  by_cases hv : crewValid plan c = true
  · have Hv := Lib.hid hv
    by_cases hin : 0 ≤ wk ∧ wk ≤ (n1 : Int) - 1
    · have Hin : Hid ((decide (0 ≤ wk) && decide (wk ≤ (n1 : Int) - 1)) = true) := by show _ = _; simp [hin.1, hin.2]
      by_cases hif : 0 ≤ fk ∧ fk ≤ (n1 : Int) - 1
      · have Hif : Hid ((decide (0 ≤ fk) && decide (fk ≤ (n1 : Int) - 1)) = true) := by show _ = _; simp [hif.1, hif.2]
        by_cases hsame : wk = fk
        · have hb : (wk == fk) = true := by simpa using hsame
          have Hr : Hid (turnSteal plan c wk fk = none) := by show _ = _; rw [hsame]; exact turnSteal_self
          clear hv hin hif hsame
          go_enter Tryz.func71, Tryz.ntmps71
          go_upto_region 1 with fail
          generalize ((w.alloc (.cells #[.slice A1 n1 c1, .slice A2 n2 c2, .slice A3 n3 c3, .slice A4 n4 c4] 27)).alloc (.cells #[.slice none 0 0, .slice none 0 0, .slice none 0 0, .slice none 0 0] 27)) = W at B0 ⊢
          have d0 := B0.b.d0
          have d1 := B0.b.d1
          have d2 := B0.b.d2
          have d3 := B0.b.d3
          go_wp2_with fail
          refine (specCrewValid_b _ _ plan c W (hp.new B0.g) B0.b.cv hpl Hfit.out Hv.out).mono ?_
          rintro e w1 ⟨rfl, hg1⟩
          have B1 := B0.new hg1
          clear B0 hg1 d0 d1 d2 d3
          have d0 := B1.b.d0
          have y0 := B1.res.cell 0
          have y1 := B1.res.cell 1
          have y2 := B1.res.cell 2
          have y3 := B1.res.cell 3
          have f0 := B1.res.frozen 0
          have f1 := B1.res.frozen 1
          have f2 := B1.res.frozen 2
          have f3 := B1.res.frozen 3
          have hfin := Lib.hid (turnFail B1.g)
          clear B1
          go_wp2_with fail
          refine (l6In_b _ _ _ _ Hin.out).mono ?_
          rintro e w2 ⟨rfl, rfl⟩
          go_wp2_with fail
          refine (l6In_b _ _ _ _ Hif.out).mono ?_
          rintro e w2 ⟨rfl, rfl⟩
          go_wp2_with fail
          refine bodyPost_ret (v := .tuple #[.agg #[.slice none 0 0, .slice none 0 0, .slice none 0 0, .slice none 0 0], .bool false]) (by simp [results, Tryz.results71, go_sem, y0, y1, y2, y3]) rfl ?_
          rw [Hr.out]
          exact hfin.out
        · have hb : (wk == fk) = false := by simpa using hsame
          obtain ⟨k, rfl⟩ := Int.eq_ofNat_of_zero_le hin.1
          obtain ⟨f, rfl⟩ := Int.eq_ofNat_of_zero_le hif.1
          have hk : k < n1 := by omega
          have hf : f < n1 := by omega
          have hkf : k ≠ f := fun e => hsame (by rw [e])
          clear hv hin hif hsame
          go_enter Tryz.func71, Tryz.ntmps71
          go_upto_region 1 with fail
          generalize ((w.alloc (.cells #[.slice A1 n1 c1, .slice A2 n2 c2, .slice A3 n3 c3, .slice A4 n4 c4] 27)).alloc (.cells #[.slice none 0 0, .slice none 0 0, .slice none 0 0, .slice none 0 0] 27)) = W at B0 ⊢
          have d0 := B0.b.d0
          have d1 := B0.b.d1
          have d2 := B0.b.d2
          have d3 := B0.b.d3
          go_wp2_with fail
          refine (specCrewValid_b _ _ plan c W (hp.new B0.g) B0.b.cv hpl Hfit.out Hv.out).mono ?_
          rintro e w1 ⟨rfl, hg1⟩
          have B1 := B0.new hg1
          clear B0 hg1 d0 d1 d2 d3
          have d0 := B1.b.d0
          have d1 := B1.b.d1
          have d2 := B1.b.d2
          have d3 := B1.b.d3
          have hkD : k < c.deques.length := by rw [← Hn1.out]; exact hk
          have hfD : f < c.deques.length := by rw [← Hn1.out]; exact hf
          obtain ⟨g, o, dw, Bw, mw, ew, rfl, hdw, qw, hrw, hmw, -, -⟩ := B1.b.dq.at_ hk
          obtain ⟨g2, o2, d, Bd, md, ed, e2, hd, q0, hrd, -, -, -⟩ := B1.b.dq.at_ hf
          injection e2 with e2
          injection e2 with e2 e3
          subst e2 e3
          have hki : (k : Int) < (n1 : Int) := by omega
          have hfi : (f : Int) < (n1 : Int) := by omega
          by_cases hm0 : mw = 0
          · have hgt : ¬ ((0 : Int) < (mw : Int)) := by omega
            have hdw0 : dw = [] := List.eq_nil_of_length_eq_zero (by omega)
            subst hdw0
            have Heq := Lib.hid (turnSteal_eq Hv.out hkD hfD hkf hdw hd)
            have Hd := Lib.hid hd
            clear hd hdw hmw hm0
            go_wp2_with fail
            refine (l6In_b _ _ _ _ Hin.out).mono ?_
            rintro e w2 ⟨rfl, rfl⟩
            go_wp2_with fail
            refine (l6In_b _ _ _ _ Hif.out).mono ?_
            rintro e w2 ⟨rfl, rfl⟩
            go_wp2_with fail
            refine (specDequeSteal_any _ d w1 hrd).mono ?_
            cases hpop : dequeSteal d with
            | none =>
              rintro e w2 ⟨u, y, rfl, hu, hg2⟩
              have B2 := B1.new hg2
              have Hr : Hid (turnSteal plan c (k : Int) (f : Int) = none) := by show _ = _; rw [Heq.out, hpop]; rfl
              have y0 := B2.res.cell 0
              have y1 := B2.res.cell 1
              have y2 := B2.res.cell 2
              have y3 := B2.res.cell 3
              have f0 := B2.res.frozen 0
              have f1 := B2.res.frozen 1
              have f2 := B2.res.frozen 2
              have f3 := B2.res.frozen 3
              have hfin := Lib.hid (turnFail B2.g)
              clear hpop B1 B2 d0 d1 d2 d3 hg2 q0 hrd qw hrw
              obtain ⟨Au, nu, cu, rfl⟩ := hu.val
              go_wp2_with fail
              refine bodyPost_ret (v := .tuple #[.agg #[.slice none 0 0, .slice none 0 0, .slice none 0 0, .slice none 0 0], .bool false]) (by simp [results, Tryz.results71, go_sem, y0, y1, y2, y3]) rfl ?_
              rw [Hr.out]
              exact hfin.out
            | some lx =>
              obtain ⟨l, x⟩ := lx
              rintro e w2 ⟨u, rfl, hu, hg2⟩
              have H := crewValid_iff.1 Hv.out
              obtain ⟨hxd, hll⟩ := steal_mem hpop
              have hl10 : l.length ≤ 10 := Nat.le_trans hll (deque_len H d (List.mem_of_getElem? Hd.out))
              obtain ⟨m, nd, rfl, hnd, hrdy, hmp⟩ := taken_node H Hd.out hxd
              have HH := Lib.hid H
              have Hr : Hid (turnSteal plan c (k : Int) (f : Int) = some (specDo plan { c with deques := c.deques.set f l } k m nd)) := by show _ = _; rw [Heq.out, hpop, specDo_eq H hnd hrdy]; rfl
              have Hnd := Lib.hid hnd
              have hDo : Hid (DoPre plan { c with deques := c.deques.set f l } k m) := doPre_of H hkD hmp hl10
              have B2 := B1.new hg2
              have hs1 : w.heap.size ≤ w1.heap.size := B1.g.size
              have hu' := hu.lower hs1
              obtain ⟨Au, nu, cu, rfl⟩ := hu.ri.val
              clear hpop H hxd hll hl10 hnd hrdy hmp hu B1 hg2 d0 d1 d2 d3 q0 hrd qw hrw
              have d0 := B2.b.d0
              have d1 := B2.b.d1
              have d2 := B2.b.d2
              have d3 := B2.b.d3
              go_wp2_with fail
              refine (l14Copy_any _ c w2 B2.b.cv (by have := HH.out.d4; omega) (fun l hl => by have := deque_len HH.out l hl; omega) (by have := HH.out.rl; have := planValid_len HH.out.pv; omega) (fun l hl => by have := row_len HH.out l hl; omega) (by have := HH.out.counts; rw [this, lefts_len]; have := planValid_len HH.out.pv; omega) (by have := done_le HH.out; have := planValid_len HH.out.pv; omega)).mono ?_
              rintro e w3 ⟨v3, rfl, ⟨dv, kv, ov, rv, xs, ys, rfl, q1, q2, q3, q4, q5, q6⟩, hg3⟩
              have B3 := B2.new hg3
              have hu3 := hu'.new hg3
              have hs2 : w.heap.size ≤ w2.heap.size := B2.g.size
              obtain ⟨gd, capd, rfl, hcd, hbd⟩ := q1.form Hn1.out.symm (by omega)
              obtain ⟨Ar, nr, cr, rfl⟩ := q4.rl.val
              obtain ⟨Ak, nk, ck, rfl⟩ := q2.val
              obtain ⟨Ao, no, co, rfl⟩ := q3.ri.val
              clear d0 d1 d2 d3 B2 hu' hg3
              go_upto_region 7 with fail
              have hO := BoxO.lay (k := .slice Ak nk ck) (q1.low hs2) (q3.lower hs2) (q4.low hs2) q5 q6
              have hgX := World.grownBy_alloc w3 (.cells #[.slice (some ⟨gd, 0, none⟩) n1 capd, .slice Ak nk ck, .slice Ao no co, .slice Ar nr cr] 27) none
              have q2' := q2.new hgX
              have hu4 := hu3.new hgX
              have B4 := B3.new hgX
              have hRX : w.heap.size + 1 < w3.heap.size := B3.res.lt
              generalize w3.alloc (.cells #[.slice (some ⟨gd, 0, none⟩) n1 capd, .slice Ak nk ck, .slice Ao no co, .slice Ar nr cr] 27) = w4 at hO hgX q2' hu4 B4 ⊢
              generalize w3.heap.size = X at hO hRX ⊢
              obtain ⟨⟨u0, cR, fR⟩, hst5, hE5, hbd5, hx5, hcv5⟩ := hO.setDeq hfD hu4 q2'
              have x0 := hO.x.cell 0
              have res5 := B4.res.past hst5 hE5
              have g5 := gb_new B4.g hst5 (fun g e => by cases e; exact .inl hbd5)
              clear q1 q2 q3 q4 q5 q6 hgX B3 hu3
              go_upto_region 8 with fail
              clear cR fR x0 hst5 hE5 q2' hu4 B4 hO
              generalize w4.setCell ⟨gd, f, none⟩ (.slice Au nu cu) = w5 at hx5 hcv5 res5 g5 ⊢
              have x0 := hx5.cell 0
              have x1 := hx5.cell 1
              have x2 := hx5.cell 2
              have x3 := hx5.cell 3
              go_wp2_with fail
              refine (l14Do_any _ _ plan { c with deques := c.deques.set f l } k m nd w5 (hp.new g5) hcv5 hDo.out Hnd.out).mono ?_
              rintro e w6 ⟨v6, rfl, hcv6, hg6⟩
              have res6 := res5.grown hg6 (by simp)
              have g6 := gb_trans g5 hg6
              obtain ⟨B1', m1', e1', B2', m2', e2', B3', m3', e3', B4', m4', e4', rfl, -, -, -, -⟩ := hcv6.form
              have hfin := Lib.hid (turnGive g6 res6 hcv6)
              have y0 := res6.cell 0
              have y1 := res6.cell 1
              have y2 := res6.cell 2
              have y3 := res6.cell 3
              have f0 := res6.frozen 0
              have f1 := res6.frozen 1
              have f2 := res6.frozen 2
              have f3 := res6.frozen 3
              clear x0 x1 x2 x3 hx5 hcv5 res5 g5 hg6 hcv6 res6 g6
              go_wp2_with fail
              refine bodyPost_ret (v := .tuple #[.agg #[.slice B1' m1' e1', .slice B2' m2' e2', .slice B3' m3' e3', .slice B4' m4' e4'], .bool true]) (by simp [results, Tryz.results71, go_sem, y0, y1, y2, y3]) rfl ?_
              rw [Hr.out]
              exact hfin.out
          · have hgt : (0 : Int) < (mw : Int) := by omega
            have Hr : Hid (turnSteal plan c (k : Int) (f : Int) = none) := turnSteal_full hdw (fun e => hm0 (by rw [hmw, e]; rfl))
            have y0 := B1.res.cell 0
            have y1 := B1.res.cell 1
            have y2 := B1.res.cell 2
            have y3 := B1.res.cell 3
            have f0 := B1.res.frozen 0
            have f1 := B1.res.frozen 1
            have f2 := B1.res.frozen 2
            have f3 := B1.res.frozen 3
            have hfin := Lib.hid (turnFail B1.g)
            clear B1 hd hdw hmw hm0 hrw hrd q0
            go_wp2_with fail
            refine (l6In_b _ _ _ _ Hin.out).mono ?_
            rintro e w2 ⟨rfl, rfl⟩
            go_wp2_with fail
            refine (l6In_b _ _ _ _ Hif.out).mono ?_
            rintro e w2 ⟨rfl, rfl⟩
            go_wp2_with fail
            refine bodyPost_ret (v := .tuple #[.agg #[.slice none 0 0, .slice none 0 0, .slice none 0 0, .slice none 0 0], .bool false]) (by simp [results, Tryz.results71, go_sem, y0, y1, y2, y3]) rfl ?_
            rw [Hr.out]
            exact hfin.out
      · have Hif : Hid ((decide (0 ≤ fk) && decide (fk ≤ (n1 : Int) - 1)) = false) := by
          show _ = _
          rw [Bool.and_eq_false_iff, decide_eq_false_iff_not, decide_eq_false_iff_not]
          omega
        have Hr : Hid (turnSteal plan c wk fk = none) := by
          show _ = _
          refine turnSteal_out2 ?_
          unfold isWorker
          rw [← Hn1.out, Bool.and_eq_false_iff, decide_eq_false_iff_not, decide_eq_false_iff_not]
          omega
        clear hv hin hif
        go_enter Tryz.func71, Tryz.ntmps71
        go_upto_region 1 with fail
        generalize ((w.alloc (.cells #[.slice A1 n1 c1, .slice A2 n2 c2, .slice A3 n3 c3, .slice A4 n4 c4] 27)).alloc (.cells #[.slice none 0 0, .slice none 0 0, .slice none 0 0, .slice none 0 0] 27)) = W at B0 ⊢
        have d0 := B0.b.d0
        have d1 := B0.b.d1
        have d2 := B0.b.d2
        have d3 := B0.b.d3
        go_wp2_with fail
        refine (specCrewValid_b _ _ plan c W (hp.new B0.g) B0.b.cv hpl Hfit.out Hv.out).mono ?_
        rintro e w1 ⟨rfl, hg1⟩
        have B1 := B0.new hg1
        clear B0 hg1 d0 d1 d2 d3
        have d0 := B1.b.d0
        have y0 := B1.res.cell 0
        have y1 := B1.res.cell 1
        have y2 := B1.res.cell 2
        have y3 := B1.res.cell 3
        have f0 := B1.res.frozen 0
        have f1 := B1.res.frozen 1
        have f2 := B1.res.frozen 2
        have f3 := B1.res.frozen 3
        have hfin := Lib.hid (turnFail B1.g)
        clear B1
        go_wp2_with fail
        refine (l6In_b _ _ _ _ Hin.out).mono ?_
        rintro e w2 ⟨rfl, rfl⟩
        go_wp2_with fail
        refine (l6In_b _ _ _ _ Hif.out).mono ?_
        rintro e w2 ⟨rfl, rfl⟩
        go_wp2_with fail
        refine bodyPost_ret (v := .tuple #[.agg #[.slice none 0 0, .slice none 0 0, .slice none 0 0, .slice none 0 0], .bool false]) (by simp [results, Tryz.results71, go_sem, y0, y1, y2, y3]) rfl ?_
        rw [Hr.out]
        exact hfin.out
    · have Hin : Hid ((decide (0 ≤ wk) && decide (wk ≤ (n1 : Int) - 1)) = false) := by
        show _ = _
        rw [Bool.and_eq_false_iff, decide_eq_false_iff_not, decide_eq_false_iff_not]
        omega
      have Hr : Hid (turnSteal plan c wk fk = none) := by
        show _ = _
        refine turnSteal_out ?_
        unfold isWorker
        rw [← Hn1.out, Bool.and_eq_false_iff, decide_eq_false_iff_not, decide_eq_false_iff_not]
        omega
      clear hv hin
      go_enter Tryz.func71, Tryz.ntmps71
      go_upto_region 1 with fail
      generalize ((w.alloc (.cells #[.slice A1 n1 c1, .slice A2 n2 c2, .slice A3 n3 c3, .slice A4 n4 c4] 27)).alloc (.cells #[.slice none 0 0, .slice none 0 0, .slice none 0 0, .slice none 0 0] 27)) = W at B0 ⊢
      have d0 := B0.b.d0
      have d1 := B0.b.d1
      have d2 := B0.b.d2
      have d3 := B0.b.d3
      go_wp2_with fail
      refine (specCrewValid_b _ _ plan c W (hp.new B0.g) B0.b.cv hpl Hfit.out Hv.out).mono ?_
      rintro e w1 ⟨rfl, hg1⟩
      have B1 := B0.new hg1
      clear B0 hg1 d0 d1 d2 d3
      have d0 := B1.b.d0
      have y0 := B1.res.cell 0
      have y1 := B1.res.cell 1
      have y2 := B1.res.cell 2
      have y3 := B1.res.cell 3
      have f0 := B1.res.frozen 0
      have f1 := B1.res.frozen 1
      have f2 := B1.res.frozen 2
      have f3 := B1.res.frozen 3
      have hfin := Lib.hid (turnFail B1.g)
      clear B1
      go_wp2_with fail
      refine (l6In_b _ _ _ _ Hin.out).mono ?_
      rintro e w2 ⟨rfl, rfl⟩
      go_wp2_with fail
      refine bodyPost_ret (v := .tuple #[.agg #[.slice none 0 0, .slice none 0 0, .slice none 0 0, .slice none 0 0], .bool false]) (by simp [results, Tryz.results71, go_sem, y0, y1, y2, y3]) rfl ?_
      rw [Hr.out]
      exact hfin.out
  · have hv' : crewValid plan c = false := by simpa using hv
    have Hv := Lib.hid hv'
    have Hr : Hid (turnSteal plan c wk fk = none) := turnSteal_bad hv'
    clear hv hv'
    go_enter Tryz.func71, Tryz.ntmps71
    go_upto_region 1 with fail
    generalize ((w.alloc (.cells #[.slice A1 n1 c1, .slice A2 n2 c2, .slice A3 n3 c3, .slice A4 n4 c4] 27)).alloc (.cells #[.slice none 0 0, .slice none 0 0, .slice none 0 0, .slice none 0 0] 27)) = W at B0 ⊢
    have d0 := B0.b.d0
    have d1 := B0.b.d1
    have d2 := B0.b.d2
    have d3 := B0.b.d3
    go_wp2_with fail
    refine (specCrewValid_b _ _ plan c W (hp.new B0.g) B0.b.cv hpl Hfit.out Hv.out).mono ?_
    rintro e w1 ⟨rfl, hg1⟩
    have B1 := B0.new hg1
    clear B0 hg1 d0 d1 d2 d3
    have y0 := B1.res.cell 0
    have y1 := B1.res.cell 1
    have y2 := B1.res.cell 2
    have y3 := B1.res.cell 3
    have f0 := B1.res.frozen 0
    have f1 := B1.res.frozen 1
    have f2 := B1.res.frozen 2
    have f3 := B1.res.frozen 3
    have hfin := Lib.hid (turnFail B1.g)
    clear B1
    go_wp2_with fail
    refine bodyPost_ret (v := .tuple #[.agg #[.slice none 0 0, .slice none 0 0, .slice none 0 0, .slice none 0 0], .bool false]) (by simp [results, Tryz.results71, go_sem, y0, y1, y2, y3]) rfl ?_
    rw [Hr.out]
    exact hfin.out
end Go.Proofs.YtihobnheficpjaaGreat
namespace Go.Proofs.YtihobnheficpjaaGreat
open Go.RowKit

theorem turnFrom_bad {plan : List Node} {c : Crew} {w : Int} (h : crewValid plan c = false) : turnFrom plan c w = -1 := by unfold turnFrom; rw [h]; rfl
theorem turnFrom_out {plan : List Node} {c : Crew} {w : Int} (h : isWorker c w = false) : turnFrom plan c w = -1 := by unfold turnFrom; rw [h, Bool.and_false]; rfl
theorem turnFrom_none {plan : List Node} {c : Crew} {k : Nat} (h : ∀ s, s < c.deques.length → c.deques.getD ((k + s) % c.deques.length) [] = []) : turnFrom plan c (k : Int) = -1 := by
  unfold turnFrom
  split
  · rw [Int.toNat_natCast, List.find?_map]
    have : (List.range c.deques.length).find? ((fun i => !decide (c.deques.getD i [] = [])) ∘ fun s => (k + s) % c.deques.length) = none := by
      rw [List.find?_eq_none]
      intro s hs
      have e := h s (List.mem_range.1 hs)
      rw [List.getD_eq_getElem?_getD] at e
      simp [e]
    rw [this]
    rfl
  · rfl
theorem turnFrom_found {plan : List Node} {c : Crew} {k i : Nat} (hv : crewValid plan c = true) (hk : k < c.deques.length) (hi : i < c.deques.length) (h : ∀ s, s < i → c.deques.getD ((k + s) % c.deques.length) [] = []) (hne : c.deques.getD ((k + i) % c.deques.length) [] ≠ []) :
    turnFrom plan c (k : Int) = (((k + i) % c.deques.length : Nat) : Int) := by
  have hw : isWorker c (k : Int) = true := isWorker_iff.2 ⟨Int.natCast_nonneg k, by omega⟩
  unfold turnFrom
  rw [hv, hw, Bool.and_true, if_pos rfl, Int.toNat_natCast, List.find?_map]
  have : (List.range c.deques.length).find? ((fun i => !decide (c.deques.getD i [] = [])) ∘ fun s => (k + s) % c.deques.length) = some i := by
    rw [List.find?_range_eq_some]
    refine ⟨by simpa using hne, List.mem_range.2 hi, fun s hs => ?_⟩
    have e := h s hs
    rw [List.getD_eq_getElem?_getD] at e
    simp [e]
  rw [this]
  rfl
theorem turnFrom_ge {plan : List Node} {c : Crew} {w : Int} : -1 ≤ turnFrom plan c w := by
  unfold turnFrom
  split
  · split <;> omega
  · omega
/-- The first i deques behind worker k are empty. -/
def noneTo (c : Crew) (k i : Nat) : Prop := ∀ s, s < i → c.deques.getD ((k + s) % c.deques.length) [] = []
theorem noneTo_succ {c : Crew} {k i : Nat} (h : noneTo c k i) (he : c.deques.getD ((k + i) % c.deques.length) [] = []) : noneTo c k (i + 1) := by
  intro s hs
  by_cases e : s = i
  · subst e; exact he
  · exact h s (by omega)
set_option maxHeartbeats 1600000 in
set_option maxRecDepth 20000 in
theorem specTurnFrom_any (pv v : Value) (plan : List Node) (c : Crew) (wk : Int) (w : World) (hp : RN w pv plan) (h : CV w v c) (hpl : plan.length ≤ 1000000000) (hfit : c.deques.length ≤ 1048576 ∧ ∀ d ∈ c.deques, d.length ≤ 1048576) :
    Calls Tryz.prog 69 #[pv, v, .int .i64 wk] w fun e w' => e = .returned (.int .i64 (turnFrom plan c wk)) ∧ w.grownBy w' none := by
  obtain ⟨A, n, cp, rfl, -, hn, -⟩ := hp.form'
  obtain ⟨A1, n1, c1, A2, n2, c2, A3, n3, c3, A4, n4, c4, rfl, h1, -, -, -⟩ := h.form
  have hX := h.box
  have hgW := World.grownBy_alloc w (.cells #[.slice A1 n1 c1, .slice A2 n2 c2, .slice A3 n3 c3, .slice A4 n4 c4] 27) none
  have hn1 := h1.len
  have hn1b : n1 ≤ 1048576 := by omega
  have Hn1 := Lib.hid hn1
  have Hfit := Lib.hid hfit.2
  have d0 := hX.d0
  have d1 := hX.d1
  have d2 := hX.d2
  have d3 := hX.d3
  have hpW := hp.new hgW
  clear hn hn1 h1 h hfit
  by_cases hv : crewValid plan c = true
  · have Hv := Lib.hid hv
    by_cases hin : 0 ≤ wk ∧ wk ≤ (n1 : Int) - 1
    · have Hin : Hid ((decide (0 ≤ wk) && decide (wk ≤ (n1 : Int) - 1)) = true) := by show _ = _; simp [hin.1, hin.2]
      obtain ⟨k, rfl⟩ := Int.eq_ofNat_of_zero_le hin.1
      have hk : k < n1 := by omega
      clear hv hin
      go_enter Tryz.func69, Tryz.ntmps69
      go_wp2_with fail
      refine (specCrewValid_b _ _ plan c _ hpW hX.cv hpl Hfit.out Hv.out).mono ?_
      rintro e w1 ⟨rfl, hg1⟩
      have hX1 := hX.new hg1
      have g1 := gb_trans hgW hg1
      clear hX hgW hpW hg1 d0 d1 d2 d3
      have d0 := hX1.d0
      go_wp2_with fail
      refine (l6In_b _ _ _ _ Hin.out).mono ?_
      rintro e w2 ⟨rfl, rfl⟩
      go_wp2_with fail
      go_loopg [7] (n1 + 1) (fun mm i wr => ∃ q : Nat, q ≤ n1 ∧ mm = n1 + 1 - q ∧ i = .int .i64 q ∧ Hid (noneTo c k q) ∧ wr = w1)
      case atStart => exact ⟨0, Nat.zero_le _, rfl, rfl, fun s hs => absurd hs (Nat.not_lt_zero _), rfl⟩
      case round =>
        obtain ⟨q, hq, rfl, rfl, Hq, rfl⟩ := hrel
        by_cases hlt : q < n1
        · obtain ⟨t, ht⟩ : ∃ t, t = (k + q) % n1 := ⟨_, rfl⟩
          have htn : t < n1 := by rw [ht]; exact Nat.mod_lt _ (by omega)
          have hmod : ((k : Int) + (q : Int)).tmod (n1 : Int) = (t : Int) := by rw [ht]; rfl
          have hn0 : ¬ ((n1 : Int) = 0) := by omega
          obtain ⟨g, o, d, B, m, e, rfl, hd, q0, hrd, hm, -, -⟩ := hX1.dq.at_ htn
          have hti : (t : Int) < (n1 : Int) := by omega
          have hget : c.deques.getD ((k + q) % c.deques.length) [] = d := by
            rw [← Hn1.out, ← ht, List.getD_eq_getElem?_getD, hd]
            rfl
          by_cases hm0 : m = 0
          · have hd0 : d = [] := List.eq_nil_of_length_eq_zero (by omega)
            have Hs : Hid (noneTo c k (q + 1)) := noneTo_succ Hq.out (hget.trans hd0)
            have hgt : ¬ ((0 : Int) < (m : Int)) := by omega
            clear hd hget hd0 hm0 hm ht
            go_wp2_with fail
            go_roundg (n1 + 1 - (q + 1))
            case measure => omega
            case rel => exact ⟨q + 1, by omega, rfl, by go_num, Hs, rfl⟩
          · have Hr : Hid (turnFrom plan c (k : Int) = (t : Int)) := by
              show _ = _
              rw [turnFrom_found Hv.out (by rw [← Hn1.out]; exact hk) (by rw [← Hn1.out]; exact hlt) Hq.out (by rw [hget]; intro e; rw [e] at hm; exact hm0 hm), ht, ← Hn1.out]
            have hgt : (0 : Int) < (m : Int) := by omega
            clear hd hget hm0 hm ht
            go_wp2_with fail
            go_ret
            exact ⟨by rw [Hr.out]; rfl, g1⟩
        · obtain rfl : n1 = q := by omega
          have Hr : Hid (turnFrom plan c (k : Int) = -1) := turnFrom_none (by have := Hq.out; rw [Hn1.out] at this; exact this)
          go_wp2_with fail
          go_ret
          exact ⟨by rw [Hr.out]; rfl, g1⟩
    · have Hin : Hid ((decide (0 ≤ wk) && decide (wk ≤ (n1 : Int) - 1)) = false) := by
        show _ = _
        rw [Bool.and_eq_false_iff, decide_eq_false_iff_not, decide_eq_false_iff_not]
        omega
      have Hr : Hid (turnFrom plan c wk = -1) := by
        show _ = _
        refine turnFrom_out ?_
        unfold isWorker
        rw [← Hn1.out, Bool.and_eq_false_iff, decide_eq_false_iff_not, decide_eq_false_iff_not]
        omega
      clear hv hin
      go_enter Tryz.func69, Tryz.ntmps69
      go_wp2_with fail
      refine (specCrewValid_b _ _ plan c _ hpW hX.cv hpl Hfit.out Hv.out).mono ?_
      rintro e w1 ⟨rfl, hg1⟩
      have hX1 := hX.new hg1
      have g1 := gb_trans hgW hg1
      clear hX hgW hpW hg1 d0 d1 d2 d3
      have d0 := hX1.d0
      go_wp2_with fail
      refine (l6In_b _ _ _ _ Hin.out).mono ?_
      rintro e w2 ⟨rfl, rfl⟩
      go_wp2_with fail
      go_ret
      exact ⟨by rw [Hr.out]; rfl, g1⟩
  · have hv' : crewValid plan c = false := by simpa using hv
    have Hv := Lib.hid hv'
    have Hr : Hid (turnFrom plan c wk = -1) := turnFrom_bad hv'
    clear hv hv'
    go_enter Tryz.func69, Tryz.ntmps69
    go_wp2_with fail
    refine (specCrewValid_b _ _ plan c _ hpW hX.cv hpl Hfit.out Hv.out).mono ?_
    rintro e w1 ⟨rfl, hg1⟩
    go_wp2_with fail
    go_ret
    exact ⟨by rw [Hr.out]; rfl, gb_trans hgW hg1⟩
theorem turnGiveAny {w wx : World} {c : Option Crew} {d k o r : Value} {b : Bool} (hg : w.grownBy wx none) (hR : Blk wx (w.heap.size + 1) 27 #[.slice none 0 0, .slice none 0 0, .slice none 0 0, .slice none 0 0]) (hb : b = c.isSome) (hc : CV wx (.agg #[d, k, o, r]) (c.getD crew0)) : TurnOut w c (.returned (.tuple #[.agg #[d, k, o, r], .bool b])) ((((wx.setCell ⟨w.heap.size + 1, 0, none⟩ d).setCell ⟨w.heap.size + 1, 1, none⟩ k).setCell ⟨w.heap.size + 1, 2, none⟩ o).setCell ⟨w.heap.size + 1, 3, none⟩ r) := by
  have hst := gb_set4 wx (w.heap.size + 1) d k o r
  have h2 := hc.grown hst (NotE.blk hR (by decide)) (NotE.blk hR (by decide))
  have h3 : w.grownBy _ none := gb_new hg hst (fun g e => by cases e; exact .inl (Nat.le_succ _))
  subst hb
  cases c with
  | none => exact ⟨_, rfl, h2, h3⟩
  | some c => exact ⟨_, rfl, h2, h3⟩
theorem TurnOut.open_ {w w' : World} {c : Option Crew} {e : Ending} (h : TurnOut w c e w') : ∃ v, e = .returned (.tuple #[v, .bool c.isSome]) ∧ CV w' v (c.getD crew0) ∧ w.grownBy w' none := by
  cases c with
  | none => exact h
  | some c => exact h
set_option maxHeartbeats 1600000 in
set_option maxRecDepth 20000 in
theorem specTurnNext_any (pv v : Value) (plan : List Node) (c : Crew) (wk : Int) (w : World) (hp : RN w pv plan) (h : CV w v c) (hpl : plan.length ≤ 1000000000) (hfit : c.deques.length ≤ 1048576 ∧ ∀ d ∈ c.deques, d.length ≤ 1048576) :
    Calls Tryz.prog 48 #[pv, v, .int .i64 wk] w (TurnOut w (turnNext plan c wk)) := by
  obtain ⟨A, n, cp, rfl, -, hn, -⟩ := hp.form'
  obtain ⟨A1, n1, c1, A2, n2, c2, A3, n3, c3, A4, n4, c4, rfl, -, -, -, -⟩ := h.form
  have B0 := Begun.start h
  have Hfit := Lib.hid hfit
  clear hn h hfit
  go_enter Tryz.func48, Tryz.ntmps48
  go_upto_region 1 with fail
  generalize ((w.alloc (.cells #[.slice A1 n1 c1, .slice A2 n2 c2, .slice A3 n3 c3, .slice A4 n4 c4] 27)).alloc (.cells #[.slice none 0 0, .slice none 0 0, .slice none 0 0, .slice none 0 0] 27)) = W at B0 ⊢
  have d0 := B0.b.d0
  have d1 := B0.b.d1
  have d2 := B0.b.d2
  have d3 := B0.b.d3
  go_wp2_with fail
  refine (specTurnFrom_any _ _ plan c wk W (hp.new B0.g) B0.b.cv hpl Hfit.out).mono ?_
  rintro e w1 ⟨rfl, hg1⟩
  have B1 := B0.new hg1
  clear B0 hg1 d0 d1 d2 d3
  have hge := turnFrom_ge (plan := plan) (c := c) (w := wk)
  obtain ⟨f, hf⟩ : ∃ f, f = turnFrom plan c wk := ⟨_, rfl⟩
  rw [← hf] at hge ⊢
  have Hf := Lib.hid hf
  clear hf
  by_cases h1 : f = -1
  · have Hr : Hid (turnNext plan c wk = none) := by show _ = _; unfold turnNext; rw [← Hf.out, if_pos h1]
    have hlt : f < 0 := by omega
    have y0 := B1.res.cell 0
    have y1 := B1.res.cell 1
    have y2 := B1.res.cell 2
    have y3 := B1.res.cell 3
    have f0 := B1.res.frozen 0
    have f1 := B1.res.frozen 1
    have f2 := B1.res.frozen 2
    have f3 := B1.res.frozen 3
    have hfin := Lib.hid (turnFail B1.g)
    clear B1 h1 hge
    go_wp2_with fail
    refine bodyPost_ret (v := .tuple #[.agg #[.slice none 0 0, .slice none 0 0, .slice none 0 0, .slice none 0 0], .bool false]) (by simp [results, Tryz.results48, go_sem, y0, y1, y2, y3]) rfl ?_
    rw [Hr.out]
    exact hfin.out
  · have hlt : ¬ f < 0 := by omega
    have d0 := B1.b.d0
    have d1 := B1.b.d1
    have d2 := B1.b.d2
    have d3 := B1.b.d3
    by_cases h2 : f = wk
    · have hb : (f == wk) = true := by simpa using h2
      have Hr : Hid (turnNext plan c wk = turnRun plan c wk) := by show _ = _; unfold turnNext; rw [← Hf.out, if_neg h1, if_pos h2]
      clear h1 h2 hge
      go_wp2_with fail
      refine (specTurnRun_any _ _ plan c wk w1 (hp.new B1.g) B1.b.cv hpl Hfit.out).mono ?_
      rintro e w2 hout
      obtain ⟨v2, rfl, hcv2, hg2⟩ := hout.open_
      have B2 := B1.new hg2
      obtain ⟨B1', m1', e1', B2', m2', e2', B3', m3', e3', B4', m4', e4', rfl, -, -, -, -⟩ := hcv2.form
      generalize hb2 : (turnRun plan c wk).isSome = b2
      have hfin := Lib.hid (turnGiveAny B2.g B2.res hb2.symm hcv2)
      have y0 := B2.res.cell 0
      have y1 := B2.res.cell 1
      have y2 := B2.res.cell 2
      have y3 := B2.res.cell 3
      have f0 := B2.res.frozen 0
      have f1 := B2.res.frozen 1
      have f2 := B2.res.frozen 2
      have f3 := B2.res.frozen 3
      clear d0 d1 d2 d3 B1 B2 hg2 hcv2 hout hb2
      go_wp2_with fail
      refine bodyPost_ret (v := .tuple #[.agg #[.slice B1' m1' e1', .slice B2' m2' e2', .slice B3' m3' e3', .slice B4' m4' e4'], .bool b2]) (by simp [results, Tryz.results48, go_sem, y0, y1, y2, y3]) rfl ?_
      rw [Hr.out]
      exact hfin.out
    · have hb : (f == wk) = false := by simpa using h2
      have Hr : Hid (turnNext plan c wk = turnSteal plan c wk f) := by show _ = _; unfold turnNext; rw [← Hf.out, if_neg h1, if_neg h2]
      clear h1 h2 hge
      go_wp2_with fail
      refine (specTurnSteal_any _ _ plan c wk f w1 (hp.new B1.g) B1.b.cv hpl Hfit.out).mono ?_
      rintro e w2 hout
      obtain ⟨v2, rfl, hcv2, hg2⟩ := hout.open_
      have B2 := B1.new hg2
      obtain ⟨B1', m1', e1', B2', m2', e2', B3', m3', e3', B4', m4', e4', rfl, -, -, -, -⟩ := hcv2.form
      generalize hb2 : (turnSteal plan c wk f).isSome = b2
      have hfin := Lib.hid (turnGiveAny B2.g B2.res hb2.symm hcv2)
      have y0 := B2.res.cell 0
      have y1 := B2.res.cell 1
      have y2 := B2.res.cell 2
      have y3 := B2.res.cell 3
      have f0 := B2.res.frozen 0
      have f1 := B2.res.frozen 1
      have f2 := B2.res.frozen 2
      have f3 := B2.res.frozen 3
      clear d0 d1 d2 d3 B1 B2 hg2 hcv2 hout hb2
      go_wp2_with fail
      refine bodyPost_ret (v := .tuple #[.agg #[.slice B1' m1' e1', .slice B2' m2' e2', .slice B3' m3' e3', .slice B4' m4' e4'], .bool b2]) (by simp [results, Tryz.results48, go_sem, y0, y1, y2, y3]) rfl ?_
      rw [Hr.out]
      exact hfin.out
end Go.Proofs.YtihobnheficpjaaGreat
namespace Go.Proofs.YtihobnheficpjaaGreat
open Go.RowKit

theorem own_prefix {w : World} {base g n cap k : Nat} {E : TypeId} {xs : List Value} (h : w.ownsRow base E 1 (.slice (some ⟨g, 0, none⟩) n cap) n xs) (hk : k ≤ n) : w.ownsRow base E 1 (.slice (some ⟨g, 0, none⟩) k cap) k (xs.take k) := by
  have hl := h.1
  refine ⟨by rw [List.length_take]; omega, ?_⟩
  rcases h.2 with ⟨e, hz⟩ | ⟨g', cap', cur, e, hb, hh, hn, hm, hcs, ht⟩
  · cases e
  · injection e with e1 e2 e3
    injection e1 with e1
    injection e1 with e1
    subst e1 e3
    refine .inr ⟨g, cap, cur, rfl, hb, hh, by omega, hm, hcs, ?_⟩
    rw [← ht, List.take_take]
    congr 1
    omega
/-- 'append(s[:k], s[k+1:]...)' on a list of rows of the call's own. -/
theorem step_del_lx {ops : Array Oper} {o : Oper} {a : Act} {K : Act → World → Prop} {Q : Exit → Act → World → Prop} {E : Prop} {w : World}
    (s x : Operand) (hgd : o.guard = none) (ho : o.op = .call { callee := .builtin .append, args := #[s, x], argTypes := #[24, 24] })
    {base g n cap k ox : Nat} {ll : List (List Int)} {xs : List Value} (hown : LX w base (.slice (some ⟨g, 0, none⟩) n cap) ll xs) (hn : ll.length ≤ 1000000) (hbase : base ≤ w.heap.size) (hk : k < n) (hnl : n = ll.length)
    (hox : ox = k + 1 ∨ n = k + 1)
    (hs : a.eval s = .slice (some ⟨g, 0, none⟩) k cap) (hx : a.eval x = .slice (some ⟨g, ox, none⟩) (n - (k + 1)) (cap - (k + 1)))
    (h : ∀ v' w', LX w' base v' (ll.eraseIdx k) (xs.eraseIdx k) → w.grownBy w' (some g) → K (a.put o.dst v') w') :
    if Region.wanted o (yielded ops a.tmps) = true then Oper.wp Tryz.prog o a w K Q else E := by
  have hw : Region.wanted o (yielded ops a.tmps) = true := by simp [Region.wanted, hgd]
  rw [if_pos hw]
  obtain ⟨i, hi, hz0, hz1, hz2⟩ := info_parts info25
  have hxl := hown.len
  obtain ⟨ho1, ho2⟩ := hown
  subst hnl
  have ho1' := ho1
  have hpre := own_prefix ho1' (Nat.le_of_lt hk)
  have hone : ∀ u ∈ xs, u.oneCell' = true := by
    intro u hu
    obtain ⟨j, hj, rfl⟩ := List.getElem_of_mem hu
    obtain ⟨u', k1, k2⟩ := ho2 j _ (List.getElem?_eq_getElem (hxl ▸ hj))
    rw [List.getElem?_eq_getElem hj] at k1
    rw [Option.some.inj k1]
    exact k2.ri.oneCell
  refine wp_append_own _ s x 24 ho base 25 i _ 1 24 Tryz.underlying24 hi hz0 hz1 hz2 rfl (by decide) (.slice (some ⟨g, 0, none⟩) k cap) k (xs.take k) hs hpre ⟨g, ox, none⟩ (ll.length - (k + 1)) (cap - (k + 1)) (xs.drop (k + 1)) hx (by rw [List.length_drop]; omega) ?_ (fun u hu => hone u (List.mem_of_mem_drop hu)) ?_ ?_ hbase ?_
  · intro j u' hj
    rw [List.getElem?_drop] at hj
    have hjl := (List.getElem?_eq_some_iff.1 hj).1
    have : ox = k + 1 := by omega
    subst this
    rw [Addr.add_lit]
    have := World.ownsRow.cellAt (g := g) (cap := cap) ho1' (k + 1 + j) (by omega)
    rw [this]
    simpa using hj
  · unfold maxLen; omega
  · omega
  · intro v' w' ho' hg _
    have hg' : w.grownBy w' (some g) := hg
    have hne : NotE w 3 (some g) := NotE.own (v := .slice (some ⟨g, 0, none⟩) ll.length cap) ho1' (by decide)
    refine h v' w' ⟨?_, fun i' l' hi' => ?_⟩ hg'
    · have e : xs.take k ++ xs.drop (k + 1) = xs.eraseIdx k := (List.eraseIdx_eq_take_drop_succ xs k).symm
      have e2 : k + (ll.length - (k + 1)) = (ll.eraseIdx k).length := by rw [List.length_eraseIdx_of_lt (by omega)]; omega
      rw [← e, ← e2]
      exact ho'
    · rw [List.getElem?_eraseIdx] at hi'
      by_cases hik : i' < k
      · rw [if_pos hik] at hi'
        obtain ⟨u, k1, k2⟩ := ho2 i' l' hi'
        exact ⟨u, by rw [List.getElem?_eraseIdx, if_pos hik]; exact k1, k2.grown hg' hne⟩
      · rw [if_neg hik] at hi'
        obtain ⟨u, k1, k2⟩ := ho2 (i' + 1) l' hi'
        exact ⟨u, by rw [List.getElem?_eraseIdx, if_neg hik]; exact k1, k2.grown hg' hne⟩
theorem BoxO.dqB {w : World} {base X gd n cap : Nat} {kv o r : Value} {D Rw : List (List Int)} {N : List Int} {xs ys : List Value} (h : BoxO w base X (.slice (some ⟨gd, 0, none⟩) n cap) kv o r D N Rw xs ys) : ∃ cur, Blk w gd 25 cur := by
  rcases h.dq.1.2 with ⟨e, _⟩ | ⟨g', cap', cur, e, _, hh, _⟩
  · cases e
  · injection e with e1
    injection e1 with e1
    injection e1 with e1
    subst e1
    exact ⟨cur, hh⟩
theorem CV.form' {w : World} {d k o r : Value} {c : Crew} (h : CV w (.agg #[d, k, o, r]) c) : RL w d c.deques := (h.box_in (gb_alloc (gb_refl w none) (.cells #[d, k, o, r] 27)) (Blk.new _ _ _)) |> fun _ => by
  obtain ⟨d', k', o', r', e, q1, q2, q3, q4⟩ := h
  injection e with e
  injection e with e
  injection e with e1 e
  subst e1
  exact q1
/-- One deque is put in, made behind all others. -/
theorem BoxO.setDeq2 {w : World} {base X gd n cap k s : Nat} {kv o r f : Value} {D Rw : List (List Int)} {N C l : List Int} {xs ys : List Value} (h : BoxO w base X (.slice (some ⟨gd, 0, none⟩) n cap) kv o r D N Rw xs ys) (hk : k < D.length) (hf : OwnI w base f l) (hC : RI w kv C) (hs : ∀ u ∈ o :: (xs ++ ys), ∀ g, u.ownBlock = some g → g < s) (hfs : ∀ g, f.ownBlock = some g → s ≤ g) :
    (∃ u, w.cell? ⟨gd, k, none⟩ = some u ∧ w.frozen? ⟨gd, k, none⟩ = false) ∧ w.grownBy (w.setCell ⟨gd, k, none⟩ f) (some gd) ∧ (∀ E, E ≠ 25 → NotE w E (some gd)) ∧ base ≤ gd ∧
    BoxO (w.setCell ⟨gd, k, none⟩ f) base X (.slice (some ⟨gd, 0, none⟩) n cap) kv o r (D.set k l) N Rw (xs.set k f) ys ∧ RI (w.setCell ⟨gd, k, none⟩ f) kv C := by
  have hst : w.grownBy (w.setCell ⟨gd, k, none⟩ f) (some gd) := gb_set (p := ⟨gd, k, none⟩) (gb_refl w (some gd)) (.inr rfl) _
  have hA : ∀ E, E ≠ 25 → NotE w E (some gd) := fun E hE => h.dq.notE hE
  have hI := hA 3 (by decide)
  have hE := hA 27 (by decide)
  have hxl := h.dq.len
  refine ⟨h.dq.cell hk, hst, hA, (h.dq.lt gd rfl).1, ⟨h.x.past hst hE, h.dq.set_ hk hf, h.dn.grown hst hI, h.ro.far hst hI (h.dr gd rfl), ?_, h.dr⟩, hC.grown hst hI⟩
  have e : o :: (xs.set k f ++ ys) = (o :: (xs ++ ys)).set (k + 1) f := by
    rw [List.set_cons_succ, List.set_append_left _ _ (by omega)]
  rw [e]
  exact h.al.set hs hfs
/-- The box and the result's cell stand where a list of rows of the call's own turns. -/
theorem Begun.past {w W W' : World} {d k o r : Value} {c : Crew} {g : Nat} (B : Begun w W d k o r c) (hg : W.grownBy W' (some g)) (hE : NotE W 27 (some g)) (hw : w.heap.size ≤ g) (hc : CV w (.agg #[d, k, o, r]) c) : Begun w W' d k o r c :=
  have h3 := gb_new B.g hg (fun g' e => by cases e; exact .inl hw)
  ⟨hc.box_in h3 (B.b.b.past hg hE), B.res.past hg hE, h3⟩
theorem lose_bad {plan : List Node} {c : Crew} {w : Int} (h : crewValid plan c = false) : loseWorker plan c w = none := by unfold loseWorker; rw [h]; rfl
theorem lose_out {plan : List Node} {c : Crew} {w : Int} (h : isWorker c w = false) : loseWorker plan c w = none := by unfold loseWorker; rw [h, Bool.and_false]; rfl
theorem lose_one {plan : List Node} {c : Crew} {w : Int} (h : c.deques.length = 1) : loseWorker plan c w = none := by unfold loseWorker; rw [decide_eq_true h]; simp
theorem lose_eq {plan : List Node} {c : Crew} {k : Nat} (hv : crewValid plan c = true) (hk : k < c.deques.length) (h1 : ¬ c.deques.length = 1) : loseWorker plan c (k : Int) = some { c with deques := (c.deques.set ((k + 1) % c.deques.length) (c.deques.getD k [] ++ c.deques.getD ((k + 1) % c.deques.length) [])).eraseIdx k } := by
  have hw : isWorker c (k : Int) = true := isWorker_iff.2 ⟨Int.natCast_nonneg k, by omega⟩
  unfold loseWorker
  rw [hv, hw, decide_eq_false h1, Int.toNat_natCast]
  rfl
set_option maxHeartbeats 6400000 in
set_option maxRecDepth 20000 in
theorem specLoseWorker_any (pv v : Value) (plan : List Node) (c : Crew) (wk : Int) (w : World) (hp : RN w pv plan) (h : CV w v c) (hpl : plan.length ≤ 1000000000) (hfit : c.deques.length ≤ 1048576 ∧ ∀ d ∈ c.deques, d.length ≤ 1048576) :
    Calls Tryz.prog 6 #[pv, v, .int .i64 wk] w (TurnOut w (loseWorker plan c wk)) := by
  obtain ⟨A, n, cp, rfl, -, hn, -⟩ := hp.form'
  obtain ⟨A1, n1, c1, A2, n2, c2, A3, n3, c3, A4, n4, c4, rfl, h1, -, -, -⟩ := h.form
  have B0 := Begun.start h
  have hn1 := h1.len
  have hn1b : n1 ≤ 1048576 := by omega
  have Hn1 := Lib.hid hn1
  have Hfit := Lib.hid hfit.2
  have Hcv := Lib.hid h
  clear hn hn1 h1 h hfit
  by_cases hv : crewValid plan c = true
  · have Hv := Lib.hid hv
    by_cases hin : 0 ≤ wk ∧ wk ≤ (n1 : Int) - 1
    · have Hin : Hid ((decide (0 ≤ wk) && decide (wk ≤ (n1 : Int) - 1)) = true) := by show _ = _; simp [hin.1, hin.2]
      obtain ⟨k, rfl⟩ := Int.eq_ofNat_of_zero_le hin.1
      have hk : k < n1 := by omega
      by_cases hone : n1 = 1
      · have hb : ((n1 : Int) == 1) = true := by simp [hone]
        have Hr : Hid (loseWorker plan c (k : Int) = none) := lose_one (by rw [← Hn1.out]; exact hone)
        clear hv hin hone
        go_enter Tryz.func6, Tryz.ntmps6
        go_upto_region 1 with fail
        generalize ((w.alloc (.cells #[.slice A1 n1 c1, .slice A2 n2 c2, .slice A3 n3 c3, .slice A4 n4 c4] 27)).alloc (.cells #[.slice none 0 0, .slice none 0 0, .slice none 0 0, .slice none 0 0] 27)) = W at B0 ⊢
        have d0 := B0.b.d0
        have d1 := B0.b.d1
        have d2 := B0.b.d2
        have d3 := B0.b.d3
        go_wp2_with fail
        refine (specCrewValid_b _ _ plan c W (hp.new B0.g) B0.b.cv hpl Hfit.out Hv.out).mono ?_
        rintro e w1 ⟨rfl, hg1⟩
        have B1 := B0.new hg1
        clear B0 hg1 d0 d1 d2 d3
        have d0 := B1.b.d0
        have y0 := B1.res.cell 0
        have y1 := B1.res.cell 1
        have y2 := B1.res.cell 2
        have y3 := B1.res.cell 3
        have f0 := B1.res.frozen 0
        have f1 := B1.res.frozen 1
        have f2 := B1.res.frozen 2
        have f3 := B1.res.frozen 3
        have hfin := Lib.hid (turnFail B1.g)
        clear B1
        go_wp2_with fail
        refine (l6In_b _ _ _ _ Hin.out).mono ?_
        rintro e w2 ⟨rfl, rfl⟩
        go_wp2_with fail
        refine bodyPost_ret (v := .tuple #[.agg #[.slice none 0 0, .slice none 0 0, .slice none 0 0, .slice none 0 0], .bool false]) (by simp [results, Tryz.results6, go_sem, y0, y1, y2, y3]) rfl ?_
        rw [Hr.out]
        exact hfin.out
      · have hb : ((n1 : Int) == 1) = false := by simp; omega
        have hkD : k < c.deques.length := by rw [← Hn1.out]; exact hk
        obtain ⟨t, ht⟩ : ∃ t, t = (k + 1) % n1 := ⟨_, rfl⟩
        have htn : t < n1 := by rw [ht]; exact Nat.mod_lt _ (by omega)
        have htD : t < c.deques.length := by rw [← Hn1.out]; exact htn
        have hmod : ((k : Int) + 1).tmod (n1 : Int) = (t : Int) := by rw [ht]; rfl
        have hn0 : ¬ ((n1 : Int) = 0) := by omega
        have Heq : Hid (loseWorker plan c (k : Int) = some { c with deques := (c.deques.set t (c.deques.getD k [] ++ c.deques.getD t [])).eraseIdx k }) := by show _ = _; rw [lose_eq hv hkD (by rw [← Hn1.out]; exact hone), ← Hn1.out, ht]
        have HH := Lib.hid (crewValid_iff.1 hv)
        clear hv hin hone ht
        go_enter Tryz.func6, Tryz.ntmps6
        go_upto_region 1 with fail
        generalize ((w.alloc (.cells #[.slice A1 n1 c1, .slice A2 n2 c2, .slice A3 n3 c3, .slice A4 n4 c4] 27)).alloc (.cells #[.slice none 0 0, .slice none 0 0, .slice none 0 0, .slice none 0 0] 27)) = W at B0 ⊢
        have d0 := B0.b.d0
        have d1 := B0.b.d1
        have d2 := B0.b.d2
        have d3 := B0.b.d3
        go_wp2_with fail
        refine (specCrewValid_b _ _ plan c W (hp.new B0.g) B0.b.cv hpl Hfit.out Hv.out).mono ?_
        rintro e w1 ⟨rfl, hg1⟩
        have B1 := B0.new hg1
        clear B0 hg1 d0 d1 d2 d3
        have d0 := B1.b.d0
        go_wp2_with fail
        refine (l6In_b _ _ _ _ Hin.out).mono ?_
        rintro e w2 ⟨rfl, rfl⟩
        have d1 := B1.b.d1
        have d2 := B1.b.d2
        have d3 := B1.b.d3
        go_wp2_with fail
        refine (l14Copy_any _ c w1 B1.b.cv (by have := HH.out.d4; omega) (fun l hl => by have := deque_len HH.out l hl; omega) (by have := HH.out.rl; have := planValid_len HH.out.pv; omega) (fun l hl => by have := row_len HH.out l hl; omega) (by have := HH.out.counts; rw [this, lefts_len]; have := planValid_len HH.out.pv; omega) (by have := done_le HH.out; have := planValid_len HH.out.pv; omega)).mono ?_
        rintro e w3 ⟨v3, rfl, ⟨dv, kv, ov, rv, xs, ys, rfl, q1, q2, q3, q4, q5, q6⟩, hg3⟩
        have B3 := B1.new hg3
        have hs2 : w.heap.size ≤ w1.heap.size := B1.g.size
        obtain ⟨gd, capd, rfl, hcd, hbd⟩ := q1.form Hn1.out.symm (by omega)
        obtain ⟨Ar, nr, cr, rfl⟩ := q4.rl.val
        obtain ⟨Ak, nk, ck, rfl⟩ := q2.val
        obtain ⟨Ao, no, co, rfl⟩ := q3.ri.val
        clear d0 d1 d2 d3 B1 hg3
        have hRX : w.heap.size + 1 < w3.heap.size := B3.res.lt
        have hO := BoxO.lay (k := .slice Ak nk ck) (q1.low hs2) (q3.lower hs2) (q4.low hs2) q5 q6
        have hgX := World.grownBy_alloc w3 (.cells #[.slice (some ⟨gd, 0, none⟩) n1 capd, .slice Ak nk ck, .slice Ao no co, .slice Ar nr cr] 27) none
        have q2' := q2.new hgX
        have B4 := B3.new hgX
        have b0 := B4.b.d0
        go_upto_region 5 with fail
        generalize w3.alloc (.cells #[.slice (some ⟨gd, 0, none⟩) n1 capd, .slice Ak nk ck, .slice Ao no co, .slice Ar nr cr] 27) = w4 at hO hgX q2' B4 b0 ⊢
        generalize w3.heap.size = X at hO hRX ⊢
        clear q1 q2 q3 q4 q5 q6 hgX B3
        obtain ⟨gb, ob, lk, Bk, mk, ek, rfl, hlk, qk, hrk, -, -, -⟩ := B4.b.dq.at_ hk
        obtain ⟨gb', ob', lt, Bt, mt, et, e2, hlt, qt, hrt, -, -, -⟩ := B4.b.dq.at_ htn
        injection e2 with e2
        injection e2 with e2 e3
        subst e2 e3
        have hlk10 : lk.length ≤ 10 := deque_len HH.out lk (List.mem_of_getElem? hlk)
        have hlt10 : lt.length ≤ 10 := deque_len HH.out lt (List.mem_of_getElem? hlt)
        have Hgk : Hid (c.deques.getD k [] = lk) := by show _ = _; rw [List.getD_eq_getElem?_getD, hlk]; rfl
        have Hgt : Hid (c.deques.getD t [] = lt) := by show _ = _; rw [List.getD_eq_getElem?_getD, hlt]; rfl
        clear hlk hlt
        have x0 := hO.x.cell 0
        have hki : (k : Int) < (n1 : Int) := by omega
        have hti : (t : Int) < (n1 : Int) := by omega
        have hgb : gb < w4.heap.size := by simpa using cell_lt qk
        have hbB : w.heap.size < w4.heap.size := B4.b.b.lt
        have hXl : X < w4.heap.size := hO.x.lt
        go_cut [] (fun wx => ∃ xs', BoxO wx w.heap.size X (.slice (some ⟨gd, 0, none⟩) n1 capd) (.slice Ak nk ck) (.slice Ao no co) (.slice Ar nr cr) (c.deques.set t (lk ++ lt)) c.done c.rows xs' ys ∧ RI wx (.slice Ak nk ck) c.counts ∧ Begun w wx (.slice (some ⟨gb, ob, none⟩) n1 c1) (.slice A2 n2 c2) (.slice A3 n3 c3) (.slice A4 n4 c4) c)
        case first =>
          have hE : OwnI (w4.alloc (.cells #[] 3)).drew w4.heap.size (.slice (some ⟨w4.heap.size, 0, none⟩) 0 0) [] := OwnI.empty w4 (Nat.le_refl _)
          have hgE : w4.grownBy (w4.alloc (.cells #[] 3)).drew none := gb_drew (World.grownBy_alloc w4 _ none)
          have hrE := hrk.new hgE
          have hlen : ([] : List Int).length + lk.length ≤ 1000000000 := by simp only [List.length_nil]; omega
          have hlen2 : lk.length + lt.length ≤ 1000000000 := by omega
          have hws : w.heap.size ≤ w4.heap.size := B4.g.size
          have hgbw : gb < w.heap.size := by
            obtain ⟨g', o', l', B', m', e', e3, _, q', _⟩ := (Hcv.out.form').at_ hk
            injection e3 with e3
            injection e3 with e3
            subst e3
            simpa using cell_lt q'
          have hgdw : w.heap.size ≤ gd := (hO.dq.lt gd rfl).1
          have hne1 : w.heap.size ≠ gd := fun e => B4.b.b.ne_ hO.dqB.choose_spec (by decide) e
          have hne2 : gb ≠ gd := by omega
          have hne3 : X ≠ gd := fun e => hO.x.ne_ hO.dqB.choose_spec (by decide) e
          clear hgbw hgdw
          go_region_held3 (fun w' => w'.cell? ⟨w.heap.size, 0, none⟩ = some (.slice (some ⟨gb, ob, none⟩) n1 c1) ∧ w'.cell? ⟨gb, ob + k, none⟩ = some (.slice Bk mk ek) ∧ w'.cell? ⟨gb, ob + t, none⟩ = some (.slice Bt mt et) ∧ w'.cell? ⟨X, 0, none⟩ = some (.slice (some ⟨gd, 0, none⟩) n1 capd)) (go_keep) (first
            | (refine step_extend_ints (w := (w4.alloc (.cells #[] 3)).drew) (base := w4.heap.size) (v := .slice (some ⟨w4.heap.size, 0, none⟩) 0 0) (xv := .slice Bk mk ek) (l0 := []) (l := lk) (.tmp 41) (.tmp 46) rfl rfl hE hrE hlen hgE.size rfl rfl ?_; intro v5 w5 hown5 hg5; have hg5' := hE.gb hgE hg5 (Nat.le_refl _); have hown5' : OwnI w5 w4.heap.size v5 lk := (by simpa using hown5); have b05 := cell_new b0 hg5'; have qk5 := cell_new qk hg5'; have qt5 := cell_new qt hg5'; have x05 := cell_new x0 hg5'; have hrt5 := hrt.new hg5'; obtain ⟨A5, n5, c5, rfl⟩ := hown5.ri.val)
            | (refine step_extend_ints (w := w5) (base := w4.heap.size) (v := .slice A5 n5 c5) (xv := .slice Bt mt et) (l0 := lk) (l := lt) (.tmp 47) (.tmp 52) rfl rfl hown5' hrt5 hlen2 hg5'.size rfl rfl ?_; intro v6 w6 hown6 hg6; have hg6' := hown5'.gb hg5' hg6 (Nat.le_refl _); have b06 := cell_new b0 hg6'; have qk6 := cell_new qk hg6'; have qt6 := cell_new qt hg6'; have x06 := cell_new x0 hg6'; have hO6 := hO.new hg6'; have hC6 := q2'.new hg6'; have B6 := B4.new hg6'; obtain ⟨⟨u0, cR, fR⟩, hst7, hE7, hbd7, hO7, hC7⟩ := hO6.setDeq2 htD (hown6.lower hws) hC6 (fun u hu g hg => (hO.lts u hu g hg).2) (fun g hg => (hown6.lt g hg).1); obtain ⟨A6, n6, c6, rfl⟩ := hown6.ri.val; have b07 := hst7.cell (by exact b06) (fun e => hne1 (by injection e)); have qk7 := hst7.cell (by exact qk6) (fun e => hne2 (by injection e)); have qt7 := hst7.cell (by exact qt6) (fun e => hne2 (by injection e)); have x07 := hst7.cell (by exact x06) (fun e => hne3 (by injection e))))
          all_goals
            go_wp2_with fail
            go_meet
            exact ⟨_, hO7, hC7, B6.past hst7 (hE7 _ (by decide)) hbd7 Hcv.out⟩
        case rest =>
          obtain ⟨xs', hO7, hC7, B7⟩ := hcut
          have x0 := hO7.x.cell 0
          have hk1 : k + 1 ≤ n1 := hk
          have hcapd : n1 ≤ capd := hcd
          have hw1 : IntKind.i64.wrap ((k : Int) + 1) = ((k + 1 : Nat) : Int) := by rw [IntWalk.i64_in _ (by omega)]; rfl
          have hb1 : (0 : Int) ≤ (k : Int) + 1 := by omega
          have hb2 : (k : Int) + 1 ≤ (n1 : Int) := by omega
          have hb3 : (k : Int) ≤ (n1 : Int) := by omega
          have hb4 : (k : Int) + 1 ≤ (capd : Int) := by omega
          have hkc : k ≤ capd := by omega
          have hk1c : k + 1 ≤ capd := by omega
          have hlL : n1 = (c.deques.set t (lk ++ lt)).length := by rw [List.length_set]; exact Hn1.out
          have hlb : (c.deques.set t (lk ++ lt)).length ≤ 1000000 := by rw [← hlL]; have := HH.out.d4; have := Hn1.out; omega
          obtain ⟨ox, hox, hox2⟩ : ∃ ox, (if capd = k + 1 then some (⟨gd, 0, none⟩ : Addr) else some ⟨gd, k + 1, none⟩) = some ⟨gd, ox, none⟩ ∧ (ox = k + 1 ∨ n1 = k + 1) := by
            by_cases hck : capd = k + 1
            · exact ⟨0, by rw [if_pos hck], .inr (by omega)⟩
            · exact ⟨k + 1, by rw [if_neg hck], .inl rfl⟩
          have hcD : wc.grownBy wc.drew none := gb_drew (gb_refl _ none)
          have hdqD := hO7.dq.new hcD
          have hszD : w.heap.size ≤ wc.drew.heap.size := B7.g.size
          have hEd : NotE wc.drew 27 (some gd) := hdqD.notE (by decide)
          have hId : NotE wc.drew 3 (some gd) := hdqD.notE (by decide)
          have hXR : X ≠ w.heap.size + 1 := by omega
          have HlL := Lib.hid hlL
          clear hlL
          go_wp2_with fail
          go_region_law (refine step_del_lx (w := wc.drew) (base := w.heap.size) (g := gd) (n := n1) (cap := capd) (k := k) (ox := ox) (ll := c.deques.set t (lk ++ lt)) (xs := xs') (.tmp 58) (.tmp 63) rfl rfl hdqD hlb hszD hk HlL.out hox2 rfl rfl ?_; intro v9 w9 hown9 hg9; have hx9 := (hO7.x.grown hcD (by simp)).past hg9 hEd; have x09 := hx9.cell 0; have f09 := hx9.frozen 0; have hC9 := (hC7.new hcD).grown hg9 hId; have hN9 := (hO7.dn.new hcD).grown hg9 hId; have hR9 := (hO7.ro.new hcD).far hg9 hId (hO7.dr gd rfl); have hres9 := (B7.res.grown hcD (by simp)).past hg9 hEd; have g9 := gb_new (gb_trans B7.g hcD) hg9 (fun g e => by cases e; exact .inl (hO7.dq.lt gd rfl).1); obtain ⟨A9, n9, c9, rfl⟩ := hown9.rl.val)
          all_goals
            have hst9 : w9.grownBy (w9.setCell ⟨X, 0, none⟩ (.slice A9 n9 c9)) (some X) := gb_set (p := ⟨X, 0, none⟩) (gb_refl w9 (some X)) (.inr rfl) _
            have hxI : NotE w9 3 (some X) := NotE.blk hx9 (by decide)
            have hxL : NotE w9 25 (some X) := NotE.blk hx9 (by decide)
            have hx10 := hx9.set_ 0 (.slice A9 n9 c9)
            have g10 := gb_new g9 hst9 (fun g e => by cases e; exact .inl (by omega))
            have hres10 := hres9.grown hst9 (by simp; omega)
            have hcv10 : CV (w9.setCell ⟨X, 0, none⟩ (.slice A9 n9 c9)) (.agg #[.slice A9 n9 c9, .slice Ak nk ck, .slice Ao no co, .slice Ar nr cr]) { c with deques := (c.deques.set t (lk ++ lt)).eraseIdx k } :=
              ⟨_, _, _, _, rfl, (hown9.grown hst9 hxI hxL).rl, hC9.grown hst9 hxI, (hN9.grown hst9 hxI).ri, (hR9.grown hst9 hxI hxL).rl⟩
            clear hown9 hC9 hN9 hR9 hres9 hx9 hst9 hxI hxL hg9 g9 x09 f09
            generalize w9.setCell ⟨X, 0, none⟩ (.slice A9 n9 c9) = w10 at hx10 g10 hres10 hcv10 ⊢
            have z0 := hx10.cell 0
            have z1 := hx10.cell 1
            have z2 := hx10.cell 2
            have z3 := hx10.cell 3
            have y0 := hres10.cell 0
            have y1 := hres10.cell 1
            have y2 := hres10.cell 2
            have y3 := hres10.cell 3
            have f0 := hres10.frozen 0
            have f1 := hres10.frozen 1
            have f2 := hres10.frozen 2
            have f3 := hres10.frozen 3
            have hfin := Lib.hid (turnGive g10 hres10 hcv10)
            clear hx10 g10 hres10 hcv10 x0 hO7 hC7 B7
            go_wp2_with fail
            refine bodyPost_ret (v := .tuple #[.agg #[.slice A9 n9 c9, .slice Ak nk ck, .slice Ao no co, .slice Ar nr cr], .bool true]) (by simp [results, Tryz.results6, go_sem, y0, y1, y2, y3]) rfl ?_
            rw [Heq.out, Hgk.out, Hgt.out]
            exact hfin.out
    · have Hin : Hid ((decide (0 ≤ wk) && decide (wk ≤ (n1 : Int) - 1)) = false) := by
        show _ = _
        rw [Bool.and_eq_false_iff, decide_eq_false_iff_not, decide_eq_false_iff_not]
        omega
      have Hr : Hid (loseWorker plan c wk = none) := by
        show _ = _
        refine lose_out ?_
        unfold isWorker
        rw [← Hn1.out, Bool.and_eq_false_iff, decide_eq_false_iff_not, decide_eq_false_iff_not]
        omega
      clear hv hin
      go_enter Tryz.func6, Tryz.ntmps6
      go_upto_region 1 with fail
      generalize ((w.alloc (.cells #[.slice A1 n1 c1, .slice A2 n2 c2, .slice A3 n3 c3, .slice A4 n4 c4] 27)).alloc (.cells #[.slice none 0 0, .slice none 0 0, .slice none 0 0, .slice none 0 0] 27)) = W at B0 ⊢
      have d0 := B0.b.d0
      have d1 := B0.b.d1
      have d2 := B0.b.d2
      have d3 := B0.b.d3
      go_wp2_with fail
      refine (specCrewValid_b _ _ plan c W (hp.new B0.g) B0.b.cv hpl Hfit.out Hv.out).mono ?_
      rintro e w1 ⟨rfl, hg1⟩
      have B1 := B0.new hg1
      clear B0 hg1 d0 d1 d2 d3
      have d0 := B1.b.d0
      have y0 := B1.res.cell 0
      have y1 := B1.res.cell 1
      have y2 := B1.res.cell 2
      have y3 := B1.res.cell 3
      have f0 := B1.res.frozen 0
      have f1 := B1.res.frozen 1
      have f2 := B1.res.frozen 2
      have f3 := B1.res.frozen 3
      have hfin := Lib.hid (turnFail B1.g)
      clear B1
      go_wp2_with fail
      refine (l6In_b _ _ _ _ Hin.out).mono ?_
      rintro e w2 ⟨rfl, rfl⟩
      go_wp2_with fail
      refine bodyPost_ret (v := .tuple #[.agg #[.slice none 0 0, .slice none 0 0, .slice none 0 0, .slice none 0 0], .bool false]) (by simp [results, Tryz.results6, go_sem, y0, y1, y2, y3]) rfl ?_
      rw [Hr.out]
      exact hfin.out
  · have hv' : crewValid plan c = false := by simpa using hv
    have Hv := Lib.hid hv'
    have Hr : Hid (loseWorker plan c wk = none) := lose_bad hv'
    clear hv hv'
    go_enter Tryz.func6, Tryz.ntmps6
    go_upto_region 1 with fail
    generalize ((w.alloc (.cells #[.slice A1 n1 c1, .slice A2 n2 c2, .slice A3 n3 c3, .slice A4 n4 c4] 27)).alloc (.cells #[.slice none 0 0, .slice none 0 0, .slice none 0 0, .slice none 0 0] 27)) = W at B0 ⊢
    have d0 := B0.b.d0
    have d1 := B0.b.d1
    have d2 := B0.b.d2
    have d3 := B0.b.d3
    go_wp2_with fail
    refine (specCrewValid_b _ _ plan c W (hp.new B0.g) B0.b.cv hpl Hfit.out Hv.out).mono ?_
    rintro e w1 ⟨rfl, hg1⟩
    have B1 := B0.new hg1
    clear B0 hg1 d0 d1 d2 d3
    have y0 := B1.res.cell 0
    have y1 := B1.res.cell 1
    have y2 := B1.res.cell 2
    have y3 := B1.res.cell 3
    have f0 := B1.res.frozen 0
    have f1 := B1.res.frozen 1
    have f2 := B1.res.frozen 2
    have f3 := B1.res.frozen 3
    have hfin := Lib.hid (turnFail B1.g)
    clear B1
    go_wp2_with fail
    refine bodyPost_ret (v := .tuple #[.agg #[.slice none 0 0, .slice none 0 0, .slice none 0 0, .slice none 0 0], .bool false]) (by simp [results, Tryz.results6, go_sem, y0, y1, y2, y3]) rfl ?_
    rw [Hr.out]
    exact hfin.out
end Go.Proofs.YtihobnheficpjaaGreat
