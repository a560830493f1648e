/- Walks: impl.stealTurn, impl.TurnSteal. · Walks: spec.TurnFrom, spec.TurnNext. · Walks: impl.TurnFrom, impl.TurnNext. -/
import Derived.Test.YtihobnheficpjaaGreatDoorM31
namespace Go.Proofs.YtihobnheficpjaaGreatDoor
open Go.RowKit

set_option maxHeartbeats 3200000 in
set_option maxRecDepth 20000 in
theorem implStealTurn_any (pv v : Value) (plan : List Node) (c : Crew) (wk fz : Int) (w : World) (hp : RN w pv plan) (h : CV w v c) (hfit : ∀ d ∈ c.deques, d.length ≤ 1048576) :
    Calls Tryz.prog 69 #[pv, v, .int .i64 wk, .int .i64 fz] w (RunOut w (turnSteal plan c wk fz)) := by
  obtain ⟨A, n, cp, rfl, -, hn, -⟩ := hp.form'
  obtain ⟨A1, n1, c1, A2, n2, c2, A3, n3, c3, A4, n4, c4, rfl, h1, -, -, -⟩ := h.form
  have B0 := Begun.start h
  have hn1 := h1.len
  have Hn1 := Lib.hid hn1
  have Hfit := Lib.hid hfit
  clear hn hn1 h1 h hfit
  by_cases hv : crewValid plan c = true
  · have Hv := Lib.hid hv
    by_cases hin : isWorker c wk = true
    · have Hin := Lib.hid hin
      by_cases hin2 : isWorker c fz = true
      · have Hin2 := Lib.hid hin2
        have hin1 := isWorker_iff.1 hin
        replace hin2 := isWorker_iff.1 hin2
        obtain ⟨k, rfl⟩ := Int.eq_ofNat_of_zero_le hin1.1
        obtain ⟨fk, rfl⟩ := Int.eq_ofNat_of_zero_le hin2.1
        have hk : k < n1 := by have := Hn1.out; omega
        have hf : fk < n1 := by have := Hn1.out; omega
        clear hv hin hin1 hin2
        by_cases hkf : k = fk
        · subst hkf
          have Hr : Hid (turnSteal plan c (k : Int) (k : Int) = none) := turnSteal_self
          go_enter Tryz.func69, Tryz.ntmps69
          go_upto_region 1 with fail
          generalize ((w.alloc (.cells #[.slice A1 n1 c1, .slice A2 n2 c2, .slice A3 n3 c3, .slice A4 n4 c4] 27)).alloc (.cells #[.slice none 0 0, .slice none 0 0, .slice none 0 0, .slice none 0 0] 27)) = W at B0 ⊢
          have d0 := B0.b.d0
          have d1 := B0.b.d1
          have d2 := B0.b.d2
          have d3 := B0.b.d3
          go_wp2_with fail
          refine (implCrewValid_b _ _ plan c W (hp.new B0.g) B0.b.cv Hfit.out Hv.out).mono ?_
          rintro e w1 ⟨rfl, hg1⟩
          have B1 := B0.new hg1
          clear B0 hg1 d0 d1 d2 d3
          have d0 := B1.b.d0
          have d1 := B1.b.d1
          have d2 := B1.b.d2
          have d3 := B1.b.d3
          go_wp2_with fail
          refine (implIsWorker_b _ c _ w1 B1.b.cv Hin.out).mono ?_
          rintro e w2 ⟨rfl, hg2⟩
          have B2 := B1.new hg2
          clear B1 hg2 d0 d1 d2 d3
          have d0 := B2.b.d0
          have d1 := B2.b.d1
          have d2 := B2.b.d2
          have d3 := B2.b.d3
          go_wp2_with fail
          refine (implIsWorker_b _ c _ w2 B2.b.cv Hin2.out).mono ?_
          rintro e w3 ⟨rfl, hg3⟩
          have B3 := B2.new hg3
          clear B2 hg3 d0 d1 d2 d3
          have y0 := B3.res.cell 0
          have y1 := B3.res.cell 1
          have y2 := B3.res.cell 2
          have y3 := B3.res.cell 3
          have f0 := B3.res.frozen 0
          have f1 := B3.res.frozen 1
          have f2 := B3.res.frozen 2
          have f3 := B3.res.frozen 3
          have hfin := Lib.hid (fun s => runFail s B3.g)
          clear B3
          go_wp2_with fail
          refine bodyPost_ret (by simp [results, Tryz.results69, go_sem, y0, y1, y2, y3]; rfl) rfl ?_
          rw [Hr.out]
          exact hfin.out _
        · have hkfi : ¬ ((k : Int) = (fk : Int)) := by omega
          have hkD : k < c.deques.length := by rw [← Hn1.out]; exact hk
          have hfD : fk < c.deques.length := by rw [← Hn1.out]; exact hf
          have hki : (k : Int) < (n1 : Int) := by omega
          have hfi : (fk : Int) < (n1 : Int) := by omega
          go_enter Tryz.func69, Tryz.ntmps69
          go_upto_region 1 with fail
          generalize ((w.alloc (.cells #[.slice A1 n1 c1, .slice A2 n2 c2, .slice A3 n3 c3, .slice A4 n4 c4] 27)).alloc (.cells #[.slice none 0 0, .slice none 0 0, .slice none 0 0, .slice none 0 0] 27)) = W at B0 ⊢
          have d0 := B0.b.d0
          have d1 := B0.b.d1
          have d2 := B0.b.d2
          have d3 := B0.b.d3
          go_wp2_with fail
          refine (implCrewValid_b _ _ plan c W (hp.new B0.g) B0.b.cv Hfit.out Hv.out).mono ?_
          rintro e w1 ⟨rfl, hg1⟩
          have B1 := B0.new hg1
          clear B0 hg1 d0 d1 d2 d3
          have d0 := B1.b.d0
          have d1 := B1.b.d1
          have d2 := B1.b.d2
          have d3 := B1.b.d3
          go_wp2_with fail
          refine (implIsWorker_b _ c _ w1 B1.b.cv Hin.out).mono ?_
          rintro e w2 ⟨rfl, hg2⟩
          have B2 := B1.new hg2
          clear B1 hg2 d0 d1 d2 d3
          have d0 := B2.b.d0
          have d1 := B2.b.d1
          have d2 := B2.b.d2
          have d3 := B2.b.d3
          go_wp2_with fail
          refine (implIsWorker_b _ c _ w2 B2.b.cv Hin2.out).mono ?_
          rintro e w3 ⟨rfl, hg3⟩
          have B3 := B2.new hg3
          clear B2 hg3 d0 d1 d2 d3
          have d0 := B3.b.d0
          have d1 := B3.b.d1
          have d2 := B3.b.d2
          have d3 := B3.b.d3
          obtain ⟨g, o, dk, Bk, mk, ek, rfl, hdk, q0, hrk, hmk, -, -⟩ := B3.b.dq.at_ hk
          obtain ⟨g', o', d, Bd, md, ed, eA, hd, p0, hrd, -, -, -⟩ := B3.b.dq.at_ hf
          injection eA with eA
          injection eA with eg eo
          subst eg eo
          by_cases hm0 : mk = 0
          · have hdk0 : dk = [] := List.eq_nil_of_length_eq_zero (by omega)
            subst hm0 hdk0
            have Heq := Lib.hid (turnSteal_eq Hv.out hkD hfD hkf hdk hd)
            have Hd := Lib.hid hd
            clear hd hdk hrk hmk
            go_wp2_with fail
            refine (implDequeSteal_any _ d w3 hrd).mono ?_
            cases hpop : dequeSteal d with
            | none =>
              rintro e w2 ⟨rfl, hg2⟩
              have B2 := B3.new hg2
              have Hr : Hid (turnSteal plan c (k : Int) (fk : Int) = none) := by show _ = _; rw [Heq.out, hpop]; rfl
              have y0 := B2.res.cell 0
              have y1 := B2.res.cell 1
              have y2 := B2.res.cell 2
              have y3 := B2.res.cell 3
              have f0 := B2.res.frozen 0
              have f1 := B2.res.frozen 1
              have f2 := B2.res.frozen 2
              have f3 := B2.res.frozen 3
              have hfin := Lib.hid (fun s => runFail s B2.g)
              clear hpop B3 B2 d0 d1 d2 d3 hg2 q0 hrd
              go_wp2_with fail
              refine bodyPost_ret (by simp [results, Tryz.results69, go_sem, y0, y1, y2, y3]; rfl) rfl ?_
              rw [Hr.out]
              exact hfin.out _
            | some lx =>
              obtain ⟨l, x⟩ := lx
              rintro e w2 ⟨u, rfl, hu, hg2⟩
              have H := crewValid_iff.1 Hv.out
              obtain ⟨hxd, hll⟩ := steal_mem hpop
              have hl10 : l.length ≤ 10 := Nat.le_trans hll (deque_len H d (List.mem_of_getElem? Hd.out))
              obtain ⟨m, nd, rfl, hnd, hrdy, hmp⟩ := taken_node H Hd.out hxd
              have HH := Lib.hid H
              have Hrdy := Lib.hid hrdy
              have Hr : Hid (turnSteal plan c (k : Int) (fk : Int) = some (doNode plan { c with deques := c.deques.set fk l } k (m : Int))) := by show _ = _; rw [Heq.out, hpop]; rfl
              have hdl : Hid (∀ y ∈ c.deques.set fk l, y.length ≤ 10) := by
                show ∀ y ∈ _, _
                intro y hy
                rcases List.mem_or_eq_of_mem_set hy with hy | rfl
                · exact deque_len H y hy
                · exact hl10
              have hsg2 := hg2.size
              have Hub : Hid (∀ g, u.ownBlock = some g → w3.heap.size ≤ g ∧ g < w2.heap.size) := hu.lt
              have B2 := B3.new hg2
              obtain ⟨Au, nu, cu, rfl⟩ := hu.ri.val
              clear hpop H hxd hll hl10 hnd hrdy hmp d0 d1 d2 d3 q0 hrd
              have d0 := B2.b.d0
              have d1 := B2.b.d1
              have d2 := B2.b.d2
              have d3 := B2.b.d3
              go_wp2_with fail
              refine (implCopyCrew_any _ c w2 B2.b.cv ⟨by have := HH.out.d4; omega, fun l hl => by have := deque_len HH.out l hl; omega⟩ ⟨by have := HH.out.rl; have := planValid_len HH.out.pv; omega, fun l hl => by have := row_len HH.out l hl; omega⟩ (by have := HH.out.counts; rw [this, lefts_len]; have := planValid_len HH.out.pv; omega) (by have := done_le HH.out; have := planValid_len HH.out.pv; omega)).mono ?_
              rintro e v3w ⟨v3, rfl, ⟨dv, kv, ov, rv, xs, ys, rfl, q1, q2, q3, q4, q5, q6⟩, hg3⟩
              have g3 := gb_trans hg2 hg3
              have hu3 := hu.new hg3
              have hap : ∀ u' ∈ ov :: (xs ++ ys), ∀ g, u'.ownBlock = some g → (Value.slice Au nu cu).ownBlock ≠ some g := fun u' hu' g e e' => by
                have h1 := Hub.out g e'
                rcases List.mem_cons.1 hu' with rfl | hu'
                · have := q3.lt g e; omega
                · rcases List.mem_append.1 hu' with hu' | hu'
                  · have := q1.lts u' hu' g e; omega
                  · have := q4.lts u' hu' g e; omega
              obtain ⟨gd, capd, rfl, hcd, hbd⟩ := q1.form Hn1.out.symm (by omega)
              obtain ⟨Ar, nr, cr, rfl⟩ := q4.rl.val
              obtain ⟨Ak, nk, ck, rfl⟩ := q2.val
              obtain ⟨Ao, no, co, rfl⟩ := q3.ri.val
              clear d0 d1 d2 d3 B2 hu hg3 hg2
              go_upto_region 13 with fail
              have hO := BoxQ.lay (k := .slice Ak nk ck) (q1.lq.low hsg2) (q3.lower hsg2) (q4.low hsg2) q5 q6
              have hgX := World.grownBy_alloc v3w (.cells #[.slice (some ⟨gd, 0, none⟩) n1 capd, .slice Ak nk ck, .slice Ao no co, .slice Ar nr cr] 27) none
              have q2' := q2.new hgX
              have hu4 := hu3.new hgX
              have g4 := gb_trans g3 hgX
              generalize v3w.alloc (.cells #[.slice (some ⟨gd, 0, none⟩) n1 capd, .slice Ak nk ck, .slice Ao no co, .slice Ar nr cr] 27) = w4 at hO hgX q2' hu4 g4 ⊢
              generalize v3w.heap.size = X at hO ⊢
              obtain ⟨⟨u0, cR, fR⟩, hst5, hbd5, hE5, hI5, O5⟩ := hO.setDq hfD hu4 hap
              have x0 := hO.x.cell 0
              have k5 : RI _ _ _ := q2'.grown hst5 hI5
              have g5 : w3.grownBy _ none := gb_new g4 hst5 (fun g e => by cases e; exact .inl hbd5)
              clear q1 q2 q3 q4 q5 q6 hgX hu3 hap
              go_upto_region 14 with fail
              clear cR fR x0 hst5 hE5 hI5 q2' hu4 g4 hO
              generalize w4.setCell ⟨gd, fk, none⟩ (.slice Au nu cu) = w5 at O5 k5 g5 ⊢
              have x0 := O5.x.cell 0
              have x1 := O5.x.cell 1
              have x2 := O5.x.cell 2
              have x3 := O5.x.cell 3
              go_wp2_with fail
              refine (implDoNode_any _ _ _ _ _ plan c (c.deques.set fk l) k m _ _ w3.heap.size w3 w5 (hp.new (gb_trans B3.g g5)) O5.dq k5 O5.dn O5.ro O5.al O5.dr g5 (Nat.le_refl _) g5.size HH.out (by rw [List.length_set]) (by rw [List.length_set]; exact hkD) Hrdy.out hdl.out).mono ?_
              rintro e w6 ⟨v6, rfl, hF6, hg6⟩
              have B6 := B3.new hg6
              have hF6' := hF6.low B3.g.size
              obtain ⟨C1, m1, e1, C2, m2, e2, C3, m3, e3, C4, m4, e4, rfl⟩ := hF6'.form
              have hfin := Lib.hid (runGive B6.g B6.res hF6')
              have y0 := B6.res.cell 0
              have y1 := B6.res.cell 1
              have y2 := B6.res.cell 2
              have y3 := B6.res.cell 3
              have f0 := B6.res.frozen 0
              have f1 := B6.res.frozen 1
              have f2 := B6.res.frozen 2
              have f3 := B6.res.frozen 3
              clear x0 x1 x2 x3 O5 k5 g5 hF6 hF6' hg6 B6 B3
              go_wp2_with fail
              refine bodyPost_ret (v := .tuple #[.agg #[.slice C1 m1 e1, .slice C2 m2 e2, .slice C3 m3 e3, .slice C4 m4 e4], .nilIface]) (by simp [results, Tryz.results69, go_sem, y0, y1, y2, y3]) rfl ?_
              rw [Hr.out]
              exact hfin.out
          · have Hr : Hid (turnSteal plan c (k : Int) (fk : Int) = none) := turnSteal_full hdk (by intro e; rw [e] at hmk; exact hm0 hmk)
            have hm0i : ¬ ((mk : Int) = 0) := by omega
            clear hd hdk hrk hrd hmk p0
            have y0 := B3.res.cell 0
            have y1 := B3.res.cell 1
            have y2 := B3.res.cell 2
            have y3 := B3.res.cell 3
            have f0 := B3.res.frozen 0
            have f1 := B3.res.frozen 1
            have f2 := B3.res.frozen 2
            have f3 := B3.res.frozen 3
            have hfin := Lib.hid (fun s => runFail s B3.g)
            clear B3
            go_wp2_with fail
            refine bodyPost_ret (by simp [results, Tryz.results69, go_sem, y0, y1, y2, y3]; rfl) rfl ?_
            rw [Hr.out]
            exact hfin.out _
      · have hin2' : isWorker c fz = false := by simpa using hin2
        have Hin2 := Lib.hid hin2'
        have Hr : Hid (turnSteal plan c wk fz = none) := turnSteal_out2 hin2'
        clear hv hin hin2 hin2'
        go_enter Tryz.func69, Tryz.ntmps69
        go_upto_region 1 with fail
        generalize ((w.alloc (.cells #[.slice A1 n1 c1, .slice A2 n2 c2, .slice A3 n3 c3, .slice A4 n4 c4] 27)).alloc (.cells #[.slice none 0 0, .slice none 0 0, .slice none 0 0, .slice none 0 0] 27)) = W at B0 ⊢
        have d0 := B0.b.d0
        have d1 := B0.b.d1
        have d2 := B0.b.d2
        have d3 := B0.b.d3
        go_wp2_with fail
        refine (implCrewValid_b _ _ plan c W (hp.new B0.g) B0.b.cv Hfit.out Hv.out).mono ?_
        rintro e w1 ⟨rfl, hg1⟩
        have B1 := B0.new hg1
        clear B0 hg1 d0 d1 d2 d3
        have d0 := B1.b.d0
        have d1 := B1.b.d1
        have d2 := B1.b.d2
        have d3 := B1.b.d3
        go_wp2_with fail
        refine (implIsWorker_b _ c _ w1 B1.b.cv Hin.out).mono ?_
        rintro e w2 ⟨rfl, hg2⟩
        have B2 := B1.new hg2
        clear B1 hg2 d0 d1 d2 d3
        have d0 := B2.b.d0
        have d1 := B2.b.d1
        have d2 := B2.b.d2
        have d3 := B2.b.d3
        go_wp2_with fail
        refine (implIsWorker_b _ c _ w2 B2.b.cv Hin2.out).mono ?_
        rintro e w3 ⟨rfl, hg3⟩
        have B3 := B2.new hg3
        clear B2 hg3 d0 d1 d2 d3
        have y0 := B3.res.cell 0
        have y1 := B3.res.cell 1
        have y2 := B3.res.cell 2
        have y3 := B3.res.cell 3
        have f0 := B3.res.frozen 0
        have f1 := B3.res.frozen 1
        have f2 := B3.res.frozen 2
        have f3 := B3.res.frozen 3
        have hfin := Lib.hid (fun s => runFail s B3.g)
        clear B3
        go_wp2_with fail
        refine bodyPost_ret (by simp [results, Tryz.results69, go_sem, y0, y1, y2, y3]; rfl) rfl ?_
        rw [Hr.out]
        exact hfin.out _
    · have hin' : isWorker c wk = false := by simpa using hin
      have Hin := Lib.hid hin'
      have Hr : Hid (turnSteal plan c wk fz = none) := turnSteal_out hin'
      clear hv hin hin'
      go_enter Tryz.func69, Tryz.ntmps69
      go_upto_region 1 with fail
      generalize ((w.alloc (.cells #[.slice A1 n1 c1, .slice A2 n2 c2, .slice A3 n3 c3, .slice A4 n4 c4] 27)).alloc (.cells #[.slice none 0 0, .slice none 0 0, .slice none 0 0, .slice none 0 0] 27)) = W at B0 ⊢
      have d0 := B0.b.d0
      have d1 := B0.b.d1
      have d2 := B0.b.d2
      have d3 := B0.b.d3
      go_wp2_with fail
      refine (implCrewValid_b _ _ plan c W (hp.new B0.g) B0.b.cv Hfit.out Hv.out).mono ?_
      rintro e w1 ⟨rfl, hg1⟩
      have B1 := B0.new hg1
      clear B0 hg1 d0 d1 d2 d3
      have d0 := B1.b.d0
      have d1 := B1.b.d1
      have d2 := B1.b.d2
      have d3 := B1.b.d3
      go_wp2_with fail
      refine (implIsWorker_b _ c _ w1 B1.b.cv Hin.out).mono ?_
      rintro e w2 ⟨rfl, hg2⟩
      have B2 := B1.new hg2
      clear B1 hg2 d0 d1 d2 d3
      have y0 := B2.res.cell 0
      have y1 := B2.res.cell 1
      have y2 := B2.res.cell 2
      have y3 := B2.res.cell 3
      have f0 := B2.res.frozen 0
      have f1 := B2.res.frozen 1
      have f2 := B2.res.frozen 2
      have f3 := B2.res.frozen 3
      have hfin := Lib.hid (fun s => runFail s B2.g)
      clear B2
      go_wp2_with fail
      refine bodyPost_ret (by simp [results, Tryz.results69, go_sem, y0, y1, y2, y3]; rfl) rfl ?_
      rw [Hr.out]
      exact hfin.out _
  · have hv' : crewValid plan c = false := by simpa using hv
    have Hv := Lib.hid hv'
    have Hr : Hid (turnSteal plan c wk fz = none) := turnSteal_bad hv'
    clear hv hv'
    go_enter Tryz.func69, Tryz.ntmps69
    go_upto_region 1 with fail
    generalize ((w.alloc (.cells #[.slice A1 n1 c1, .slice A2 n2 c2, .slice A3 n3 c3, .slice A4 n4 c4] 27)).alloc (.cells #[.slice none 0 0, .slice none 0 0, .slice none 0 0, .slice none 0 0] 27)) = W at B0 ⊢
    have d0 := B0.b.d0
    have d1 := B0.b.d1
    have d2 := B0.b.d2
    have d3 := B0.b.d3
    go_wp2_with fail
    refine (implCrewValid_b _ _ plan c W (hp.new B0.g) B0.b.cv Hfit.out Hv.out).mono ?_
    rintro e w1 ⟨rfl, hg1⟩
    have B1 := B0.new hg1
    clear B0 hg1 d0 d1 d2 d3
    have y0 := B1.res.cell 0
    have y1 := B1.res.cell 1
    have y2 := B1.res.cell 2
    have y3 := B1.res.cell 3
    have f0 := B1.res.frozen 0
    have f1 := B1.res.frozen 1
    have f2 := B1.res.frozen 2
    have f3 := B1.res.frozen 3
    have hfin := Lib.hid (fun s => runFail s B1.g)
    clear B1
    go_wp2_with fail
    refine bodyPost_ret (by simp [results, Tryz.results69, go_sem, y0, y1, y2, y3]; rfl) rfl ?_
    rw [Hr.out]
    exact hfin.out _
set_option maxHeartbeats 1600000 in
set_option maxRecDepth 20000 in
theorem implTurnSteal_any (pv v : Value) (plan : List Node) (c : Crew) (wk fz : Int) (a : Addr) (w : World) (hE : ErrTurn w a) (hp : RN w pv plan) (h : CV w v c) (hfit : ∀ d ∈ c.deques, d.length ≤ 1048576) :
    Calls Tryz.prog 25 #[pv, v, .int .i64 wk, .int .i64 fz] w (TurnOutF w (turnSteal plan c wk fz)) := by
  obtain ⟨A, n, cp, rfl, -, hn, -⟩ := hp.form'
  obtain ⟨A1, n1, c1, A2, n2, c2, A3, n3, c3, A4, n4, c4, rfl, h1, -, -, -⟩ := h.form
  have B0 := Begun.start h
  have Hfit := Lib.hid hfit
  obtain ⟨R, hR⟩ : ∃ R, R = turnSteal plan c wk fz := ⟨_, rfl⟩
  rw [← hR]
  have HR := Lib.hid hR
  clear hn h1 h hfit hR
  go_enter Tryz.func25, Tryz.ntmps25
  go_upto_region 1 with fail
  generalize ((w.alloc (.cells #[.slice A1 n1 c1, .slice A2 n2 c2, .slice A3 n3 c3, .slice A4 n4 c4] 27)).alloc (.cells #[.slice none 0 0, .slice none 0 0, .slice none 0 0, .slice none 0 0] 27)) = W at B0 ⊢
  have d0 := B0.b.d0
  have d1 := B0.b.d1
  have d2 := B0.b.d2
  have d3 := B0.b.d3
  go_wp2_with fail
  refine (implStealTurn_any _ _ plan c wk fz W (hp.new B0.g) B0.b.cv Hfit.out).mono ?_
  rw [← HR.out]
  clear HR
  cases R with
  | none =>
    rintro e w1 ⟨s, rfl, hg1⟩
    have hgX := World.grownBy_alloc w1 (.cells #[.slice none 0 0, .slice none 0 0, .slice none 0 0, .slice none 0 0] 27) none
    have B2 := (B0.new hg1).new hgX
    clear B0 hg1 hgX d0 d1 d2 d3
    go_upto_region 2 with fail
    generalize w1.alloc (.cells #[.slice none 0 0, .slice none 0 0, .slice none 0 0, .slice none 0 0] 27) = w2 at B2 ⊢
    have hE2 := hE.new B2.g
    have e0 : w2.cell? ⟨0, 0, none⟩ = some (.iface 205 (.pointer (some a))) := hE2
    go_wp2_with fail
    refine (isErr_any s a w2 hE2).mono ?_
    rintro e w3 ⟨rfl, hg3⟩
    have B3 := B2.new hg3
    have y0 := B3.res.cell 0
    have y1 := B3.res.cell 1
    have y2 := B3.res.cell 2
    have y3 := B3.res.cell 3
    have f0 := B3.res.frozen 0
    have f1 := B3.res.frozen 1
    have f2 := B3.res.frozen 2
    have f3 := B3.res.frozen 3
    have hfin := Lib.hid (turnGiveF (r := none) B3.g B3.res rfl (OwnF.zero w3 w.heap.size))
    clear B2 B3 hE2 e0 hg3
    go_wp2_with fail
    refine bodyPost_ret (v := .tuple #[.agg #[.slice none 0 0, .slice none 0 0, .slice none 0 0, .slice none 0 0], .bool false]) (by simp [results, Tryz.results25, go_sem, y0, y1, y2, y3]) rfl ?_
    exact hfin.out
  | some c' =>
    rintro e w1 ⟨v1, rfl, hF1, hg1⟩
    obtain ⟨C1, m1, e1, C2, m2, e2, C3, m3, e3, C4, m4, e4, rfl⟩ := hF1.form
    have hgX := World.grownBy_alloc w1 (.cells #[.slice C1 m1 e1, .slice C2 m2 e2, .slice C3 m3 e3, .slice C4 m4 e4] 27) none
    have hX := Blk.new w1 27 #[.slice C1 m1 e1, .slice C2 m2 e2, .slice C3 m3 e3, .slice C4 m4 e4]
    have B2 := (B0.new hg1).new hgX
    have hF2 := (hF1.new hgX).low B0.g.size
    clear B0 hg1 hgX hF1 d0 d1 d2 d3
    go_upto_region 2 with fail
    generalize w1.alloc (.cells #[.slice C1 m1 e1, .slice C2 m2 e2, .slice C3 m3 e3, .slice C4 m4 e4] 27) = w2 at B2 hF2 hX ⊢
    generalize w1.heap.size = X at hX ⊢
    have e0 : w2.cell? ⟨0, 0, none⟩ = some (.iface 205 (.pointer (some a))) := hE.new B2.g
    go_wp2_with fail
    refine (isNil_any a w2).mono ?_
    rintro e w3 ⟨rfl, rfl⟩
    have x0 := hX.cell 0
    have x1 := hX.cell 1
    have x2 := hX.cell 2
    have x3 := hX.cell 3
    have y0 := B2.res.cell 0
    have y1 := B2.res.cell 1
    have y2 := B2.res.cell 2
    have y3 := B2.res.cell 3
    have f0 := B2.res.frozen 0
    have f1 := B2.res.frozen 1
    have f2 := B2.res.frozen 2
    have f3 := B2.res.frozen 3
    have hfin := Lib.hid (turnGiveF (r := some c') B2.g B2.res rfl hF2)
    clear B2 e0 hF2 hX
    go_wp2_with fail
    refine bodyPost_ret (v := .tuple #[.agg #[.slice C1 m1 e1, .slice C2 m2 e2, .slice C3 m3 e3, .slice C4 m4 e4], .bool true]) (by simp [results, Tryz.results25, go_sem, y0, y1, y2, y3]) rfl ?_
    exact hfin.out
end Go.Proofs.YtihobnheficpjaaGreatDoor
namespace Go.Proofs.YtihobnheficpjaaGreatDoor
open Go.RowKit

theorem turnFrom_bad {plan : List Node} {c : Crew} {w : Int} (h : crewValid plan c = false) : turnFrom plan c w = -1 := by unfold turnFrom; rw [h]; rfl
theorem turnFrom_out {plan : List Node} {c : Crew} {w : Int} (h : isWorker c w = false) : turnFrom plan c w = -1 := by unfold turnFrom; rw [h, Bool.and_false]; rfl
theorem turnFrom_none {plan : List Node} {c : Crew} {k : Nat} (h : ∀ s, s < c.deques.length → c.deques.getD ((k + s) % c.deques.length) [] = []) : turnFrom plan c (k : Int) = -1 := by
  unfold turnFrom
  split
  · rw [Int.toNat_natCast, List.find?_map]
    have : (List.range c.deques.length).find? ((fun i => !decide (c.deques.getD i [] = [])) ∘ fun s => (k + s) % c.deques.length) = none := by
      rw [List.find?_eq_none]
      intro s hs
      have e := h s (List.mem_range.1 hs)
      rw [List.getD_eq_getElem?_getD] at e
      simp [e]
    rw [this]
    rfl
  · rfl
theorem turnFrom_found {plan : List Node} {c : Crew} {k i : Nat} (hv : crewValid plan c = true) (hk : k < c.deques.length) (hi : i < c.deques.length) (h : ∀ s, s < i → c.deques.getD ((k + s) % c.deques.length) [] = []) (hne : c.deques.getD ((k + i) % c.deques.length) [] ≠ []) :
    turnFrom plan c (k : Int) = (((k + i) % c.deques.length : Nat) : Int) := by
  have hw : isWorker c (k : Int) = true := isWorker_iff.2 ⟨Int.natCast_nonneg k, by omega⟩
  unfold turnFrom
  rw [hv, hw, Bool.and_true, if_pos rfl, Int.toNat_natCast, List.find?_map]
  have : (List.range c.deques.length).find? ((fun i => !decide (c.deques.getD i [] = [])) ∘ fun s => (k + s) % c.deques.length) = some i := by
    rw [List.find?_range_eq_some]
    refine ⟨by simpa using hne, List.mem_range.2 hi, fun s hs => ?_⟩
    have e := h s hs
    rw [List.getD_eq_getElem?_getD] at e
    simp [e]
  rw [this]
  rfl
theorem turnFrom_ge {plan : List Node} {c : Crew} {w : Int} : -1 ≤ turnFrom plan c w := by
  unfold turnFrom
  split
  · split <;> omega
  · omega
/-- The first i deques behind worker k are empty. -/
def noneTo (c : Crew) (k i : Nat) : Prop := ∀ s, s < i → c.deques.getD ((k + s) % c.deques.length) [] = []
theorem noneTo_succ {c : Crew} {k i : Nat} (h : noneTo c k i) (he : c.deques.getD ((k + i) % c.deques.length) [] = []) : noneTo c k (i + 1) := by
  intro s hs
  by_cases e : s = i
  · subst e; exact he
  · exact h s (by omega)
set_option maxHeartbeats 1600000 in
set_option maxRecDepth 20000 in
theorem specTurnFrom_any (pv v : Value) (plan : List Node) (c : Crew) (wk : Int) (w : World) (hp : RN w pv plan) (h : CV w v c) (hpl : plan.length ≤ 1000000000) (hfit : c.deques.length ≤ 1048576 ∧ ∀ d ∈ c.deques, d.length ≤ 1048576) :
    Calls Tryz.prog 49 #[pv, v, .int .i64 wk] w fun e w' => e = .returned (.int .i64 (turnFrom plan c wk)) ∧ w.grownBy w' none := by
  obtain ⟨A, n, cp, rfl, -, hn, -⟩ := hp.form'
  obtain ⟨A1, n1, c1, A2, n2, c2, A3, n3, c3, A4, n4, c4, rfl, h1, -, -, -⟩ := h.form
  have hX := h.box
  have hgW := World.grownBy_alloc w (.cells #[.slice A1 n1 c1, .slice A2 n2 c2, .slice A3 n3 c3, .slice A4 n4 c4] 27) none
  have hn1 := h1.len
  have hn1b : n1 ≤ 1048576 := by omega
  have Hn1 := Lib.hid hn1
  have Hfit := Lib.hid hfit.2
  have d0 := hX.d0
  have d1 := hX.d1
  have d2 := hX.d2
  have d3 := hX.d3
  have hpW := hp.new hgW
  clear hn hn1 h1 h hfit
  by_cases hv : crewValid plan c = true
  · have Hv := Lib.hid hv
    by_cases hin : 0 ≤ wk ∧ wk ≤ (n1 : Int) - 1
    · have Hin : Hid ((decide (0 ≤ wk) && decide (wk ≤ (n1 : Int) - 1)) = true) := by show _ = _; simp [hin.1, hin.2]
      obtain ⟨k, rfl⟩ := Int.eq_ofNat_of_zero_le hin.1
      have hk : k < n1 := by omega
      clear hv hin
      go_enter Tryz.func49, Tryz.ntmps49
      go_wp2_with fail
      refine (specCrewValid_b _ _ plan c _ hpW hX.cv hpl Hfit.out Hv.out).mono ?_
      rintro e w1 ⟨rfl, hg1⟩
      have hX1 := hX.new hg1
      have g1 := gb_trans hgW hg1
      clear hX hgW hpW hg1 d0 d1 d2 d3
      have d0 := hX1.d0
      go_wp2_with fail
      refine (l6In_b _ _ _ _ Hin.out).mono ?_
      rintro e w2 ⟨rfl, rfl⟩
      go_wp2_with fail
      go_loopg [7] (n1 + 1) (fun mm i wr => ∃ q : Nat, q ≤ n1 ∧ mm = n1 + 1 - q ∧ i = .int .i64 q ∧ Hid (noneTo c k q) ∧ wr = w1)
      case atStart => exact ⟨0, Nat.zero_le _, rfl, rfl, fun s hs => absurd hs (Nat.not_lt_zero _), rfl⟩
      case round =>
        obtain ⟨q, hq, rfl, rfl, Hq, rfl⟩ := hrel
        by_cases hlt : q < n1
        · obtain ⟨t, ht⟩ : ∃ t, t = (k + q) % n1 := ⟨_, rfl⟩
          have htn : t < n1 := by rw [ht]; exact Nat.mod_lt _ (by omega)
          have hmod : ((k : Int) + (q : Int)).tmod (n1 : Int) = (t : Int) := by rw [ht]; rfl
          have hn0 : ¬ ((n1 : Int) = 0) := by omega
          obtain ⟨g, o, d, B, m, e, rfl, hd, q0, hrd, hm, -, -⟩ := hX1.dq.at_ htn
          have hti : (t : Int) < (n1 : Int) := by omega
          have hget : c.deques.getD ((k + q) % c.deques.length) [] = d := by
            rw [← Hn1.out, ← ht, List.getD_eq_getElem?_getD, hd]
            rfl
          by_cases hm0 : m = 0
          · have hd0 : d = [] := List.eq_nil_of_length_eq_zero (by omega)
            have Hs : Hid (noneTo c k (q + 1)) := noneTo_succ Hq.out (hget.trans hd0)
            have hgt : ¬ ((0 : Int) < (m : Int)) := by omega
            clear hd hget hd0 hm0 hm ht
            go_wp2_with fail
            go_roundg (n1 + 1 - (q + 1))
            case measure => omega
            case rel => exact ⟨q + 1, by omega, rfl, by go_num, Hs, rfl⟩
          · have Hr : Hid (turnFrom plan c (k : Int) = (t : Int)) := by
              show _ = _
              rw [turnFrom_found Hv.out (by rw [← Hn1.out]; exact hk) (by rw [← Hn1.out]; exact hlt) Hq.out (by rw [hget]; intro e; rw [e] at hm; exact hm0 hm), ht, ← Hn1.out]
            have hgt : (0 : Int) < (m : Int) := by omega
            clear hd hget hm0 hm ht
            go_wp2_with fail
            go_ret
            exact ⟨by rw [Hr.out]; rfl, g1⟩
        · obtain rfl : n1 = q := by omega
          have Hr : Hid (turnFrom plan c (k : Int) = -1) := turnFrom_none (by have := Hq.out; rw [Hn1.out] at this; exact this)
          go_wp2_with fail
          go_ret
          exact ⟨by rw [Hr.out]; rfl, g1⟩
    · have Hin : Hid ((decide (0 ≤ wk) && decide (wk ≤ (n1 : Int) - 1)) = false) := by
        show _ = _
        rw [Bool.and_eq_false_iff, decide_eq_false_iff_not, decide_eq_false_iff_not]
        omega
      have Hr : Hid (turnFrom plan c wk = -1) := by
        show _ = _
        refine turnFrom_out ?_
        unfold isWorker
        rw [← Hn1.out, Bool.and_eq_false_iff, decide_eq_false_iff_not, decide_eq_false_iff_not]
        omega
      clear hv hin
      go_enter Tryz.func49, Tryz.ntmps49
      go_wp2_with fail
      refine (specCrewValid_b _ _ plan c _ hpW hX.cv hpl Hfit.out Hv.out).mono ?_
      rintro e w1 ⟨rfl, hg1⟩
      have hX1 := hX.new hg1
      have g1 := gb_trans hgW hg1
      clear hX hgW hpW hg1 d0 d1 d2 d3
      have d0 := hX1.d0
      go_wp2_with fail
      refine (l6In_b _ _ _ _ Hin.out).mono ?_
      rintro e w2 ⟨rfl, rfl⟩
      go_wp2_with fail
      go_ret
      exact ⟨by rw [Hr.out]; rfl, g1⟩
  · have hv' : crewValid plan c = false := by simpa using hv
    have Hv := Lib.hid hv'
    have Hr : Hid (turnFrom plan c wk = -1) := turnFrom_bad hv'
    clear hv hv'
    go_enter Tryz.func49, Tryz.ntmps49
    go_wp2_with fail
    refine (specCrewValid_b _ _ plan c _ hpW hX.cv hpl Hfit.out Hv.out).mono ?_
    rintro e w1 ⟨rfl, hg1⟩
    go_wp2_with fail
    go_ret
    exact ⟨by rw [Hr.out]; rfl, gb_trans hgW hg1⟩
theorem turnGiveAny {w wx : World} {c : Option Crew} {d k o r : Value} {b : Bool} (hg : w.grownBy wx none) (hR : Blk wx (w.heap.size + 1) 27 #[.slice none 0 0, .slice none 0 0, .slice none 0 0, .slice none 0 0]) (hb : b = c.isSome) (hc : CV wx (.agg #[d, k, o, r]) (c.getD crew0)) : TurnOut w c (.returned (.tuple #[.agg #[d, k, o, r], .bool b])) ((((wx.setCell ⟨w.heap.size + 1, 0, none⟩ d).setCell ⟨w.heap.size + 1, 1, none⟩ k).setCell ⟨w.heap.size + 1, 2, none⟩ o).setCell ⟨w.heap.size + 1, 3, none⟩ r) := by
  have hst := gb_set4 wx (w.heap.size + 1) d k o r
  have h2 := hc.grown hst (NotE.blk hR (by decide)) (NotE.blk hR (by decide))
  have h3 : w.grownBy _ none := gb_new hg hst (fun g e => by cases e; exact .inl (Nat.le_succ _))
  subst hb
  cases c with
  | none => exact ⟨_, rfl, h2, h3⟩
  | some c => exact ⟨_, rfl, h2, h3⟩
theorem TurnOut.open_ {w w' : World} {c : Option Crew} {e : Ending} (h : TurnOut w c e w') : ∃ v, e = .returned (.tuple #[v, .bool c.isSome]) ∧ CV w' v (c.getD crew0) ∧ w.grownBy w' none := by
  cases c with
  | none => exact h
  | some c => exact h
set_option maxHeartbeats 1600000 in
set_option maxRecDepth 20000 in
theorem specTurnNext_any (pv v : Value) (plan : List Node) (c : Crew) (wk : Int) (w : World) (hp : RN w pv plan) (h : CV w v c) (hpl : plan.length ≤ 1000000000) (hfit : c.deques.length ≤ 1048576 ∧ ∀ d ∈ c.deques, d.length ≤ 1048576) :
    Calls Tryz.prog 38 #[pv, v, .int .i64 wk] w (TurnOut w (turnNext plan c wk)) := by
  obtain ⟨A, n, cp, rfl, -, hn, -⟩ := hp.form'
  obtain ⟨A1, n1, c1, A2, n2, c2, A3, n3, c3, A4, n4, c4, rfl, -, -, -, -⟩ := h.form
  have B0 := Begun.start h
  have Hfit := Lib.hid hfit
  clear hn h hfit
  go_enter Tryz.func38, Tryz.ntmps38
  go_upto_region 1 with fail
  generalize ((w.alloc (.cells #[.slice A1 n1 c1, .slice A2 n2 c2, .slice A3 n3 c3, .slice A4 n4 c4] 27)).alloc (.cells #[.slice none 0 0, .slice none 0 0, .slice none 0 0, .slice none 0 0] 27)) = W at B0 ⊢
  have d0 := B0.b.d0
  have d1 := B0.b.d1
  have d2 := B0.b.d2
  have d3 := B0.b.d3
  go_wp2_with fail
  refine (specTurnFrom_any _ _ plan c wk W (hp.new B0.g) B0.b.cv hpl Hfit.out).mono ?_
  rintro e w1 ⟨rfl, hg1⟩
  have B1 := B0.new hg1
  clear B0 hg1 d0 d1 d2 d3
  have hge := turnFrom_ge (plan := plan) (c := c) (w := wk)
  obtain ⟨f, hf⟩ : ∃ f, f = turnFrom plan c wk := ⟨_, rfl⟩
  rw [← hf] at hge ⊢
  have Hf := Lib.hid hf
  clear hf
  by_cases h1 : f = -1
  · have Hr : Hid (turnNext plan c wk = none) := by show _ = _; unfold turnNext; rw [← Hf.out, if_pos h1]
    have hlt : f < 0 := by omega
    have y0 := B1.res.cell 0
    have y1 := B1.res.cell 1
    have y2 := B1.res.cell 2
    have y3 := B1.res.cell 3
    have f0 := B1.res.frozen 0
    have f1 := B1.res.frozen 1
    have f2 := B1.res.frozen 2
    have f3 := B1.res.frozen 3
    have hfin := Lib.hid (turnFail B1.g)
    clear B1 h1 hge
    go_wp2_with fail
    refine bodyPost_ret (v := .tuple #[.agg #[.slice none 0 0, .slice none 0 0, .slice none 0 0, .slice none 0 0], .bool false]) (by simp [results, Tryz.results38, go_sem, y0, y1, y2, y3]) rfl ?_
    rw [Hr.out]
    exact hfin.out
  · have hlt : ¬ f < 0 := by omega
    have d0 := B1.b.d0
    have d1 := B1.b.d1
    have d2 := B1.b.d2
    have d3 := B1.b.d3
    by_cases h2 : f = wk
    · have hb : (f == wk) = true := by simpa using h2
      have Hr : Hid (turnNext plan c wk = turnRun plan c wk) := by show _ = _; unfold turnNext; rw [← Hf.out, if_neg h1, if_pos h2]
      clear h1 h2 hge
      go_wp2_with fail
      refine (specTurnRun_any _ _ plan c wk w1 (hp.new B1.g) B1.b.cv hpl Hfit.out).mono ?_
      rintro e w2 hout
      obtain ⟨v2, rfl, hcv2, hg2⟩ := hout.open_
      have B2 := B1.new hg2
      obtain ⟨B1', m1', e1', B2', m2', e2', B3', m3', e3', B4', m4', e4', rfl, -, -, -, -⟩ := hcv2.form
      generalize hb2 : (turnRun plan c wk).isSome = b2
      have hfin := Lib.hid (turnGiveAny B2.g B2.res hb2.symm hcv2)
      have y0 := B2.res.cell 0
      have y1 := B2.res.cell 1
      have y2 := B2.res.cell 2
      have y3 := B2.res.cell 3
      have f0 := B2.res.frozen 0
      have f1 := B2.res.frozen 1
      have f2 := B2.res.frozen 2
      have f3 := B2.res.frozen 3
      clear d0 d1 d2 d3 B1 B2 hg2 hcv2 hout hb2
      go_wp2_with fail
      refine bodyPost_ret (v := .tuple #[.agg #[.slice B1' m1' e1', .slice B2' m2' e2', .slice B3' m3' e3', .slice B4' m4' e4'], .bool b2]) (by simp [results, Tryz.results38, go_sem, y0, y1, y2, y3]) rfl ?_
      rw [Hr.out]
      exact hfin.out
    · have hb : (f == wk) = false := by simpa using h2
      have Hr : Hid (turnNext plan c wk = turnSteal plan c wk f) := by show _ = _; unfold turnNext; rw [← Hf.out, if_neg h1, if_neg h2]
      clear h1 h2 hge
      go_wp2_with fail
      refine (specTurnSteal_any _ _ plan c wk f w1 (hp.new B1.g) B1.b.cv hpl Hfit.out).mono ?_
      rintro e w2 hout
      obtain ⟨v2, rfl, hcv2, hg2⟩ := hout.open_
      have B2 := B1.new hg2
      obtain ⟨B1', m1', e1', B2', m2', e2', B3', m3', e3', B4', m4', e4', rfl, -, -, -, -⟩ := hcv2.form
      generalize hb2 : (turnSteal plan c wk f).isSome = b2
      have hfin := Lib.hid (turnGiveAny B2.g B2.res hb2.symm hcv2)
      have y0 := B2.res.cell 0
      have y1 := B2.res.cell 1
      have y2 := B2.res.cell 2
      have y3 := B2.res.cell 3
      have f0 := B2.res.frozen 0
      have f1 := B2.res.frozen 1
      have f2 := B2.res.frozen 2
      have f3 := B2.res.frozen 3
      clear d0 d1 d2 d3 B1 B2 hg2 hcv2 hout hb2
      go_wp2_with fail
      refine bodyPost_ret (v := .tuple #[.agg #[.slice B1' m1' e1', .slice B2' m2' e2', .slice B3' m3' e3', .slice B4' m4' e4'], .bool b2]) (by simp [results, Tryz.results38, go_sem, y0, y1, y2, y3]) rfl ?_
      rw [Hr.out]
      exact hfin.out
end Go.Proofs.YtihobnheficpjaaGreatDoor
namespace Go.Proofs.YtihobnheficpjaaGreatDoor
open Go.RowKit

set_option maxHeartbeats 1600000 in
set_option maxRecDepth 20000 in
theorem implTurnFrom_any (pv v : Value) (plan : List Node) (c : Crew) (wk : Int) (w : World) (hp : RN w pv plan) (h : CV w v c) (hfit : ∀ d ∈ c.deques, d.length ≤ 1048576) :
    Calls Tryz.prog 39 #[pv, v, .int .i64 wk] w fun e w' => e = .returned (.int .i64 (turnFrom plan c wk)) ∧ w.grownBy w' none := by
  obtain ⟨A, n, cp, rfl, -, hn, -⟩ := hp.form'
  obtain ⟨A1, n1, c1, A2, n2, c2, A3, n3, c3, A4, n4, c4, rfl, h1, -, -, -⟩ := h.form
  have hX := h.box
  have hgW := World.grownBy_alloc w (.cells #[.slice A1 n1 c1, .slice A2 n2 c2, .slice A3 n3 c3, .slice A4 n4 c4] 27) none
  have hn1 := h1.len
  have Hn1 := Lib.hid hn1
  have Hfit := Lib.hid hfit
  have hpW := hp.new hgW
  clear hn hn1 h1 h hfit
  by_cases hv : crewValid plan c = true
  · have Hv := Lib.hid hv
    have hn4 : n1 ≤ 4 := by have := (crewValid_iff.1 hv).d4; have := Hn1.out; omega
    by_cases hin : isWorker c wk = true
    · have Hin := Lib.hid hin
      have hin2 := isWorker_iff.1 hin
      obtain ⟨k, rfl⟩ := Int.eq_ofNat_of_zero_le hin2.1
      have hk : k < n1 := by have := Hn1.out; omega
      clear hv hin hin2
      go_enter Tryz.func39, Tryz.ntmps39
      go_upto_region 1 with fail
      generalize w.alloc (.cells #[.slice A1 n1 c1, .slice A2 n2 c2, .slice A3 n3 c3, .slice A4 n4 c4] 27) = W at hX hgW hpW ⊢
      have d0 := hX.d0
      have d1 := hX.d1
      have d2 := hX.d2
      have d3 := hX.d3
      go_wp2_with fail
      refine (implCrewValid_b _ _ plan c _ hpW hX.cv Hfit.out Hv.out).mono ?_
      rintro e w1 ⟨rfl, hg1⟩
      have hX1 := hX.new hg1
      have g1 := gb_trans hgW hg1
      clear hX hgW hpW hg1 d0 d1 d2 d3
      have d0 := hX1.d0
      have d1 := hX1.d1
      have d2 := hX1.d2
      have d3 := hX1.d3
      go_wp2_with fail
      refine (implIsWorker_b _ c _ w1 hX1.cv Hin.out).mono ?_
      rintro e w2 ⟨rfl, hg2⟩
      have hX2 := hX1.new hg2
      have g2 := gb_trans g1 hg2
      clear hX1 g1 hg2 d0 d1 d2 d3
      have d0 := hX2.d0
      go_wp2_with fail
      go_loopg [22] (n1 + 1) (fun mm i wr => ∃ q : Nat, q ≤ n1 ∧ mm = n1 + 1 - q ∧ i = .int .i64 q ∧ Hid (noneTo c k q) ∧ wr = w2)
      case atStart => exact ⟨0, Nat.zero_le _, rfl, rfl, fun s hs => absurd hs (Nat.not_lt_zero _), rfl⟩
      case round =>
        obtain ⟨q, hq, rfl, rfl, Hq, rfl⟩ := hrel
        by_cases hlt : q < n1
        · obtain ⟨t, ht⟩ : ∃ t, t = (k + q) % n1 := ⟨_, rfl⟩
          have htn : t < n1 := by rw [ht]; exact Nat.mod_lt _ (by omega)
          have hmod : ((k : Int) + (q : Int)).tmod (n1 : Int) = (t : Int) := by rw [ht]; rfl
          have hn0 : ¬ ((n1 : Int) = 0) := by omega
          obtain ⟨g, o, d, B, m, e, rfl, hd, q0, hrd, hm, -, -⟩ := hX2.dq.at_ htn
          have hti : (t : Int) < (n1 : Int) := by omega
          have hget : c.deques.getD ((k + q) % c.deques.length) [] = d := by
            rw [← Hn1.out, ← ht, List.getD_eq_getElem?_getD, hd]
            rfl
          by_cases hm0 : m = 0
          · have hd0 : d = [] := List.eq_nil_of_length_eq_zero (by omega)
            have Hs : Hid (noneTo c k (q + 1)) := noneTo_succ Hq.out (hget.trans hd0)
            subst hm0
            clear hd hget hd0 hm ht
            go_wp2_with fail
            go_roundg (n1 + 1 - (q + 1))
            case measure => omega
            case rel => exact ⟨q + 1, by omega, rfl, by go_num, Hs, rfl⟩
          · have Hr : Hid (turnFrom plan c (k : Int) = (t : Int)) := by
              show _ = _
              rw [turnFrom_found Hv.out (by rw [← Hn1.out]; exact hk) (by rw [← Hn1.out]; exact hlt) Hq.out (by rw [hget]; intro e; rw [e] at hm; exact hm0 hm), ht, ← Hn1.out]
            have hgt : ¬ ((m : Int) = 0) := by omega
            clear hd hget hm ht
            go_wp2_with fail
            go_ret
            exact ⟨by rw [Hr.out]; rfl, g2⟩
        · obtain rfl : n1 = q := by omega
          have Hr : Hid (turnFrom plan c (k : Int) = -1) := turnFrom_none (by have := Hq.out; rw [Hn1.out] at this; exact this)
          go_wp2_with fail
          go_ret
          exact ⟨by rw [Hr.out]; rfl, g2⟩
    · have hin' : isWorker c wk = false := by simpa using hin
      have Hin := Lib.hid hin'
      have Hr : Hid (turnFrom plan c wk = -1) := turnFrom_out hin'
      clear hv hin hin'
      go_enter Tryz.func39, Tryz.ntmps39
      go_upto_region 1 with fail
      generalize w.alloc (.cells #[.slice A1 n1 c1, .slice A2 n2 c2, .slice A3 n3 c3, .slice A4 n4 c4] 27) = W at hX hgW hpW ⊢
      have d0 := hX.d0
      have d1 := hX.d1
      have d2 := hX.d2
      have d3 := hX.d3
      go_wp2_with fail
      refine (implCrewValid_b _ _ plan c _ hpW hX.cv Hfit.out Hv.out).mono ?_
      rintro e w1 ⟨rfl, hg1⟩
      have hX1 := hX.new hg1
      have g1 := gb_trans hgW hg1
      clear hX hgW hpW hg1 d0 d1 d2 d3
      have d0 := hX1.d0
      have d1 := hX1.d1
      have d2 := hX1.d2
      have d3 := hX1.d3
      go_wp2_with fail
      refine (implIsWorker_b _ c _ w1 hX1.cv Hin.out).mono ?_
      rintro e w2 ⟨rfl, hg2⟩
      go_wp2_with fail
      go_ret
      exact ⟨by rw [Hr.out]; rfl, gb_trans g1 hg2⟩
  · have hv' : crewValid plan c = false := by simpa using hv
    have Hv := Lib.hid hv'
    have Hr : Hid (turnFrom plan c wk = -1) := turnFrom_bad hv'
    clear hv hv'
    go_enter Tryz.func39, Tryz.ntmps39
    go_upto_region 1 with fail
    generalize w.alloc (.cells #[.slice A1 n1 c1, .slice A2 n2 c2, .slice A3 n3 c3, .slice A4 n4 c4] 27) = W at hX hgW hpW ⊢
    have d0 := hX.d0
    have d1 := hX.d1
    have d2 := hX.d2
    have d3 := hX.d3
    go_wp2_with fail
    refine (implCrewValid_b _ _ plan c _ hpW hX.cv Hfit.out Hv.out).mono ?_
    rintro e w1 ⟨rfl, hg1⟩
    go_wp2_with fail
    go_ret
    exact ⟨by rw [Hr.out]; rfl, gb_trans hgW hg1⟩
set_option maxHeartbeats 1600000 in
set_option maxRecDepth 20000 in
theorem implTurnNext_any (pv v : Value) (plan : List Node) (c : Crew) (wk : Int) (a : Addr) (w : World) (hE : ErrTurn w a) (hp : RN w pv plan) (h : CV w v c) (hfit : ∀ d ∈ c.deques, d.length ≤ 1048576) :
    Calls Tryz.prog 37 #[pv, v, .int .i64 wk] w (TurnOutF w (turnNext plan c wk)) := by
  obtain ⟨A, n, cp, rfl, -, hn, -⟩ := hp.form'
  obtain ⟨A1, n1, c1, A2, n2, c2, A3, n3, c3, A4, n4, c4, rfl, -, -, -, -⟩ := h.form
  have B0 := Begun.start h
  have Hfit := Lib.hid hfit
  clear hn h hfit
  go_enter Tryz.func37, Tryz.ntmps37
  go_upto_region 1 with fail
  generalize ((w.alloc (.cells #[.slice A1 n1 c1, .slice A2 n2 c2, .slice A3 n3 c3, .slice A4 n4 c4] 27)).alloc (.cells #[.slice none 0 0, .slice none 0 0, .slice none 0 0, .slice none 0 0] 27)) = W at B0 ⊢
  have d0 := B0.b.d0
  have d1 := B0.b.d1
  have d2 := B0.b.d2
  have d3 := B0.b.d3
  go_wp2_with fail
  refine (implTurnFrom_any _ _ plan c wk W (hp.new B0.g) B0.b.cv Hfit.out).mono ?_
  rintro e w1 ⟨rfl, hg1⟩
  have B1 := B0.new hg1
  clear B0 hg1 d0 d1 d2 d3
  obtain ⟨f, hf⟩ : ∃ f, f = turnFrom plan c wk := ⟨_, rfl⟩
  rw [← hf]
  have Hf := Lib.hid hf
  clear hf
  by_cases h1 : f = -1
  · have Hr : Hid (turnNext plan c wk = none) := by show _ = _; unfold turnNext; rw [← Hf.out, if_pos h1]
    have hb : (f == -1) = true := by simpa using h1
    have y0 := B1.res.cell 0
    have y1 := B1.res.cell 1
    have y2 := B1.res.cell 2
    have y3 := B1.res.cell 3
    have f0 := B1.res.frozen 0
    have f1 := B1.res.frozen 1
    have f2 := B1.res.frozen 2
    have f3 := B1.res.frozen 3
    have hfin := Lib.hid (turnGiveF (r := none) B1.g B1.res rfl (OwnF.zero w1 w.heap.size))
    clear B1 h1
    go_wp2_with fail
    refine bodyPost_ret (v := .tuple #[.agg #[.slice none 0 0, .slice none 0 0, .slice none 0 0, .slice none 0 0], .bool false]) (by simp [results, Tryz.results37, go_sem, y0, y1, y2, y3]) rfl ?_
    rw [Hr.out]
    exact hfin.out
  · have hb1 : (f == -1) = false := by simpa using h1
    have d0 := B1.b.d0
    have d1 := B1.b.d1
    have d2 := B1.b.d2
    have d3 := B1.b.d3
    by_cases h2 : f = wk
    · have hb : (f == wk) = true := by simpa using h2
      have Hr : Hid (turnNext plan c wk = turnRun plan c wk) := by show _ = _; unfold turnNext; rw [← Hf.out, if_neg h1, if_pos h2]
      clear h1 h2
      go_wp2_with fail
      refine (implTurnRun_any _ _ plan c wk a w1 (hE.new B1.g) (hp.new B1.g) B1.b.cv Hfit.out).mono ?_
      rintro e w2 ⟨v2, rfl, hcv2, hg2⟩
      have B2 := B1.new hg2
      obtain ⟨B1', m1', e1', B2', m2', e2', B3', m3', e3', B4', m4', e4', rfl⟩ := hcv2.form
      generalize hb2 : (turnRun plan c wk).isSome = b2
      have hfin := Lib.hid (turnGiveF B2.g B2.res hb2.symm (hcv2.low B1.g.size))
      have y0 := B2.res.cell 0
      have y1 := B2.res.cell 1
      have y2 := B2.res.cell 2
      have y3 := B2.res.cell 3
      have f0 := B2.res.frozen 0
      have f1 := B2.res.frozen 1
      have f2 := B2.res.frozen 2
      have f3 := B2.res.frozen 3
      clear d0 d1 d2 d3 B1 B2 hg2 hcv2 hb2
      go_wp2_with fail
      refine bodyPost_ret (v := .tuple #[.agg #[.slice B1' m1' e1', .slice B2' m2' e2', .slice B3' m3' e3', .slice B4' m4' e4'], .bool b2]) (by simp [results, Tryz.results37, go_sem, y0, y1, y2, y3]) rfl ?_
      rw [Hr.out]
      exact hfin.out
    · have hb : (f == wk) = false := by simpa using h2
      have Hr : Hid (turnNext plan c wk = turnSteal plan c wk f) := by show _ = _; unfold turnNext; rw [← Hf.out, if_neg h1, if_neg h2]
      clear h1 h2
      go_wp2_with fail
      refine (implTurnSteal_any _ _ plan c wk f a w1 (hE.new B1.g) (hp.new B1.g) B1.b.cv Hfit.out).mono ?_
      rintro e w2 ⟨v2, rfl, hcv2, hg2⟩
      have B2 := B1.new hg2
      obtain ⟨B1', m1', e1', B2', m2', e2', B3', m3', e3', B4', m4', e4', rfl⟩ := hcv2.form
      generalize hb2 : (turnSteal plan c wk f).isSome = b2
      have hfin := Lib.hid (turnGiveF B2.g B2.res hb2.symm (hcv2.low B1.g.size))
      have y0 := B2.res.cell 0
      have y1 := B2.res.cell 1
      have y2 := B2.res.cell 2
      have y3 := B2.res.cell 3
      have f0 := B2.res.frozen 0
      have f1 := B2.res.frozen 1
      have f2 := B2.res.frozen 2
      have f3 := B2.res.frozen 3
      clear d0 d1 d2 d3 B1 B2 hg2 hcv2 hb2
      go_wp2_with fail
      refine bodyPost_ret (v := .tuple #[.agg #[.slice B1' m1' e1', .slice B2' m2' e2', .slice B3' m3' e3', .slice B4' m4' e4'], .bool b2]) (by simp [results, Tryz.results37, go_sem, y0, y1, y2, y3]) rfl ?_
      rw [Hr.out]
      exact hfin.out
end Go.Proofs.YtihobnheficpjaaGreatDoor
