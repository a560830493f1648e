/- Walks: spec.LoseWorker. · Walks: spec.CountsReady, spec.CrewNew. · Walks: spec.CrewNew. -/
import Derived.Test.YtihobnheficpjaaGreatDoorM32
namespace Go.Proofs.YtihobnheficpjaaGreatDoor
open Go.RowKit

theorem own_prefix {w : World} {base g n cap k : Nat} {E : TypeId} {xs : List Value} (h : w.ownsRow base E 1 (.slice (some ⟨g, 0, none⟩) n cap) n xs) (hk : k ≤ n) : w.ownsRow base E 1 (.slice (some ⟨g, 0, none⟩) k cap) k (xs.take k) := by
  have hl := h.1
  refine ⟨by rw [List.length_take]; omega, ?_⟩
  rcases h.2 with ⟨e, hz⟩ | ⟨g', cap', cur, e, hb, hh, hn, hm, hcs, ht⟩
  · cases e
  · injection e with e1 e2 e3
    injection e1 with e1
    injection e1 with e1
    subst e1 e3
    refine .inr ⟨g, cap, cur, rfl, hb, hh, by omega, hm, hcs, ?_⟩
    rw [← ht, List.take_take]
    congr 1
    omega
/-- 'append(s[:k], s[k+1:]...)' on a list of rows of the call's own. -/
theorem step_del_lx {ops : Array Oper} {o : Oper} {a : Act} {K : Act → World → Prop} {Q : Exit → Act → World → Prop} {E : Prop} {w : World}
    (s x : Operand) (hgd : o.guard = none) (ho : o.op = .call { callee := .builtin .append, args := #[s, x], argTypes := #[24, 24] })
    {base g n cap k ox : Nat} {ll : List (List Int)} {xs : List Value} (hown : LX w base (.slice (some ⟨g, 0, none⟩) n cap) ll xs) (hn : ll.length ≤ 1000000) (hbase : base ≤ w.heap.size) (hk : k < n) (hnl : n = ll.length)
    (hox : ox = k + 1 ∨ n = k + 1)
    (hs : a.eval s = .slice (some ⟨g, 0, none⟩) k cap) (hx : a.eval x = .slice (some ⟨g, ox, none⟩) (n - (k + 1)) (cap - (k + 1)))
    (h : ∀ v' w', LX w' base v' (ll.eraseIdx k) (xs.eraseIdx k) → w.grownBy w' (some g) → K (a.put o.dst v') w') :
    if Region.wanted o (yielded ops a.tmps) = true then Oper.wp Tryz.prog o a w K Q else E := by
  have hw : Region.wanted o (yielded ops a.tmps) = true := by simp [Region.wanted, hgd]
  rw [if_pos hw]
  obtain ⟨i, hi, hz0, hz1, hz2⟩ := info_parts info25
  have hxl := hown.len
  obtain ⟨ho1, ho2⟩ := hown
  subst hnl
  have ho1' := ho1
  have hpre := own_prefix ho1' (Nat.le_of_lt hk)
  have hone : ∀ u ∈ xs, u.oneCell' = true := by
    intro u hu
    obtain ⟨j, hj, rfl⟩ := List.getElem_of_mem hu
    obtain ⟨u', k1, k2⟩ := ho2 j _ (List.getElem?_eq_getElem (hxl ▸ hj))
    rw [List.getElem?_eq_getElem hj] at k1
    rw [Option.some.inj k1]
    exact k2.ri.oneCell
  refine wp_append_own _ s x 24 ho base 25 i _ 1 24 Tryz.underlying24 hi hz0 hz1 hz2 rfl (by decide) (.slice (some ⟨g, 0, none⟩) k cap) k (xs.take k) hs hpre ⟨g, ox, none⟩ (ll.length - (k + 1)) (cap - (k + 1)) (xs.drop (k + 1)) hx (by rw [List.length_drop]; omega) ?_ (fun u hu => hone u (List.mem_of_mem_drop hu)) ?_ ?_ hbase ?_
  · intro j u' hj
    rw [List.getElem?_drop] at hj
    have hjl := (List.getElem?_eq_some_iff.1 hj).1
    have : ox = k + 1 := by omega
    subst this
    rw [Addr.add_lit]
    have := World.ownsRow.cellAt (g := g) (cap := cap) ho1' (k + 1 + j) (by omega)
    rw [this]
    simpa using hj
  · unfold maxLen; omega
  · omega
  · intro v' w' ho' hg _
    have hg' : w.grownBy w' (some g) := hg
    have hne : NotE w 3 (some g) := NotE.own (v := .slice (some ⟨g, 0, none⟩) ll.length cap) ho1' (by decide)
    refine h v' w' ⟨?_, fun i' l' hi' => ?_⟩ hg'
    · have e : xs.take k ++ xs.drop (k + 1) = xs.eraseIdx k := (List.eraseIdx_eq_take_drop_succ xs k).symm
      have e2 : k + (ll.length - (k + 1)) = (ll.eraseIdx k).length := by rw [List.length_eraseIdx_of_lt (by omega)]; omega
      rw [← e, ← e2]
      exact ho'
    · rw [List.getElem?_eraseIdx] at hi'
      by_cases hik : i' < k
      · rw [if_pos hik] at hi'
        obtain ⟨u, k1, k2⟩ := ho2 i' l' hi'
        exact ⟨u, by rw [List.getElem?_eraseIdx, if_pos hik]; exact k1, k2.grown hg' hne⟩
      · rw [if_neg hik] at hi'
        obtain ⟨u, k1, k2⟩ := ho2 (i' + 1) l' hi'
        exact ⟨u, by rw [List.getElem?_eraseIdx, if_neg hik]; exact k1, k2.grown hg' hne⟩
theorem BoxO.dqB {w : World} {base X gd n cap : Nat} {kv o r : Value} {D Rw : List (List Int)} {N : List Int} {xs ys : List Value} (h : BoxO w base X (.slice (some ⟨gd, 0, none⟩) n cap) kv o r D N Rw xs ys) : ∃ cur, Blk w gd 25 cur := by
  rcases h.dq.1.2 with ⟨e, _⟩ | ⟨g', cap', cur, e, _, hh, _⟩
  · cases e
  · injection e with e1
    injection e1 with e1
    injection e1 with e1
    subst e1
    exact ⟨cur, hh⟩
theorem CV.form' {w : World} {d k o r : Value} {c : Crew} (h : CV w (.agg #[d, k, o, r]) c) : RL w d c.deques := (h.box_in (gb_alloc (gb_refl w none) (.cells #[d, k, o, r] 27)) (Blk.new _ _ _)) |> fun _ => by
  obtain ⟨d', k', o', r', e, q1, q2, q3, q4⟩ := h
  injection e with e
  injection e with e
  injection e with e1 e
  subst e1
  exact q1
/-- One deque is put in, made behind all others. -/
theorem BoxO.setDeq2 {w : World} {base X gd n cap k s : Nat} {kv o r f : Value} {D Rw : List (List Int)} {N C l : List Int} {xs ys : List Value} (h : BoxO w base X (.slice (some ⟨gd, 0, none⟩) n cap) kv o r D N Rw xs ys) (hk : k < D.length) (hf : OwnI w base f l) (hC : RI w kv C) (hs : ∀ u ∈ o :: (xs ++ ys), ∀ g, u.ownBlock = some g → g < s) (hfs : ∀ g, f.ownBlock = some g → s ≤ g) :
    (∃ u, w.cell? ⟨gd, k, none⟩ = some u ∧ w.frozen? ⟨gd, k, none⟩ = false) ∧ w.grownBy (w.setCell ⟨gd, k, none⟩ f) (some gd) ∧ (∀ E, E ≠ 25 → NotE w E (some gd)) ∧ base ≤ gd ∧
    BoxO (w.setCell ⟨gd, k, none⟩ f) base X (.slice (some ⟨gd, 0, none⟩) n cap) kv o r (D.set k l) N Rw (xs.set k f) ys ∧ RI (w.setCell ⟨gd, k, none⟩ f) kv C := by
  have hst : w.grownBy (w.setCell ⟨gd, k, none⟩ f) (some gd) := gb_set (p := ⟨gd, k, none⟩) (gb_refl w (some gd)) (.inr rfl) _
  have hA : ∀ E, E ≠ 25 → NotE w E (some gd) := fun E hE => h.dq.notE hE
  have hI := hA 3 (by decide)
  have hE := hA 27 (by decide)
  have hxl := h.dq.len
  refine ⟨h.dq.cell hk, hst, hA, (h.dq.lt gd rfl).1, ⟨h.x.past hst hE, h.dq.set_ hk hf, h.dn.grown hst hI, h.ro.far hst hI (h.dr gd rfl), ?_, h.dr⟩, hC.grown hst hI⟩
  have e : o :: (xs.set k f ++ ys) = (o :: (xs ++ ys)).set (k + 1) f := by
    rw [List.set_cons_succ, List.set_append_left _ _ (by omega)]
  rw [e]
  exact h.al.set hs hfs
/-- The box and the result's cell stand where a list of rows of the call's own turns. -/
theorem Begun.past {w W W' : World} {d k o r : Value} {c : Crew} {g : Nat} (B : Begun w W d k o r c) (hg : W.grownBy W' (some g)) (hE : NotE W 27 (some g)) (hw : w.heap.size ≤ g) (hc : CV w (.agg #[d, k, o, r]) c) : Begun w W' d k o r c :=
  have h3 := gb_new B.g hg (fun g' e => by cases e; exact .inl hw)
  ⟨hc.box_in h3 (B.b.b.past hg hE), B.res.past hg hE, h3⟩
theorem lose_bad {plan : List Node} {c : Crew} {w : Int} (h : crewValid plan c = false) : loseWorker plan c w = none := by unfold loseWorker; rw [h]; rfl
theorem lose_out {plan : List Node} {c : Crew} {w : Int} (h : isWorker c w = false) : loseWorker plan c w = none := by unfold loseWorker; rw [h, Bool.and_false]; rfl
theorem lose_one {plan : List Node} {c : Crew} {w : Int} (h : c.deques.length = 1) : loseWorker plan c w = none := by unfold loseWorker; rw [decide_eq_true h]; simp
theorem lose_eq {plan : List Node} {c : Crew} {k : Nat} (hv : crewValid plan c = true) (hk : k < c.deques.length) (h1 : ¬ c.deques.length = 1) : loseWorker plan c (k : Int) = some { c with deques := (c.deques.set ((k + 1) % c.deques.length) (c.deques.getD k [] ++ c.deques.getD ((k + 1) % c.deques.length) [])).eraseIdx k } := by
  have hw : isWorker c (k : Int) = true := isWorker_iff.2 ⟨Int.natCast_nonneg k, by omega⟩
  unfold loseWorker
  rw [hv, hw, decide_eq_false h1, Int.toNat_natCast]
  rfl
set_option maxHeartbeats 6400000 in
set_option maxRecDepth 20000 in
theorem specLoseWorker_any (pv v : Value) (plan : List Node) (c : Crew) (wk : Int) (w : World) (hp : RN w pv plan) (h : CV w v c) (hpl : plan.length ≤ 1000000000) (hfit : c.deques.length ≤ 1048576 ∧ ∀ d ∈ c.deques, d.length ≤ 1048576) :
    Calls Tryz.prog 43 #[pv, v, .int .i64 wk] w (TurnOut w (loseWorker plan c wk)) := by
  obtain ⟨A, n, cp, rfl, -, hn, -⟩ := hp.form'
  obtain ⟨A1, n1, c1, A2, n2, c2, A3, n3, c3, A4, n4, c4, rfl, h1, -, -, -⟩ := h.form
  have B0 := Begun.start h
  have hn1 := h1.len
  have hn1b : n1 ≤ 1048576 := by omega
  have Hn1 := Lib.hid hn1
  have Hfit := Lib.hid hfit.2
  have Hcv := Lib.hid h
  clear hn hn1 h1 h hfit
  by_cases hv : crewValid plan c = true
  · have Hv := Lib.hid hv
    by_cases hin : 0 ≤ wk ∧ wk ≤ (n1 : Int) - 1
    · have Hin : Hid ((decide (0 ≤ wk) && decide (wk ≤ (n1 : Int) - 1)) = true) := by show _ = _; simp [hin.1, hin.2]
      obtain ⟨k, rfl⟩ := Int.eq_ofNat_of_zero_le hin.1
      have hk : k < n1 := by omega
      by_cases hone : n1 = 1
      · have hb : ((n1 : Int) == 1) = true := by simp [hone]
        have Hr : Hid (loseWorker plan c (k : Int) = none) := lose_one (by rw [← Hn1.out]; exact hone)
        clear hv hin hone
        go_enter Tryz.func43, Tryz.ntmps43
        go_upto_region 1 with fail
        generalize ((w.alloc (.cells #[.slice A1 n1 c1, .slice A2 n2 c2, .slice A3 n3 c3, .slice A4 n4 c4] 27)).alloc (.cells #[.slice none 0 0, .slice none 0 0, .slice none 0 0, .slice none 0 0] 27)) = W at B0 ⊢
        have d0 := B0.b.d0
        have d1 := B0.b.d1
        have d2 := B0.b.d2
        have d3 := B0.b.d3
        go_wp2_with fail
        refine (specCrewValid_b _ _ plan c W (hp.new B0.g) B0.b.cv hpl Hfit.out Hv.out).mono ?_
        rintro e w1 ⟨rfl, hg1⟩
        have B1 := B0.new hg1
        clear B0 hg1 d0 d1 d2 d3
        have d0 := B1.b.d0
        have y0 := B1.res.cell 0
        have y1 := B1.res.cell 1
        have y2 := B1.res.cell 2
        have y3 := B1.res.cell 3
        have f0 := B1.res.frozen 0
        have f1 := B1.res.frozen 1
        have f2 := B1.res.frozen 2
        have f3 := B1.res.frozen 3
        have hfin := Lib.hid (turnFail B1.g)
        clear B1
        go_wp2_with fail
        refine (l6In_b _ _ _ _ Hin.out).mono ?_
        rintro e w2 ⟨rfl, rfl⟩
        go_wp2_with fail
        refine bodyPost_ret (v := .tuple #[.agg #[.slice none 0 0, .slice none 0 0, .slice none 0 0, .slice none 0 0], .bool false]) (by simp [results, Tryz.results43, go_sem, y0, y1, y2, y3]) rfl ?_
        rw [Hr.out]
        exact hfin.out
      · have hb : ((n1 : Int) == 1) = false := by simp; omega
        have hkD : k < c.deques.length := by rw [← Hn1.out]; exact hk
        obtain ⟨t, ht⟩ : ∃ t, t = (k + 1) % n1 := ⟨_, rfl⟩
        have htn : t < n1 := by rw [ht]; exact Nat.mod_lt _ (by omega)
        have htD : t < c.deques.length := by rw [← Hn1.out]; exact htn
        have hmod : ((k : Int) + 1).tmod (n1 : Int) = (t : Int) := by rw [ht]; rfl
        have hn0 : ¬ ((n1 : Int) = 0) := by omega
        have Heq : Hid (loseWorker plan c (k : Int) = some { c with deques := (c.deques.set t (c.deques.getD k [] ++ c.deques.getD t [])).eraseIdx k }) := by show _ = _; rw [lose_eq hv hkD (by rw [← Hn1.out]; exact hone), ← Hn1.out, ht]
        have HH := Lib.hid (crewValid_iff.1 hv)
        clear hv hin hone ht
        go_enter Tryz.func43, Tryz.ntmps43
        go_upto_region 1 with fail
        generalize ((w.alloc (.cells #[.slice A1 n1 c1, .slice A2 n2 c2, .slice A3 n3 c3, .slice A4 n4 c4] 27)).alloc (.cells #[.slice none 0 0, .slice none 0 0, .slice none 0 0, .slice none 0 0] 27)) = W at B0 ⊢
        have d0 := B0.b.d0
        have d1 := B0.b.d1
        have d2 := B0.b.d2
        have d3 := B0.b.d3
        go_wp2_with fail
        refine (specCrewValid_b _ _ plan c W (hp.new B0.g) B0.b.cv hpl Hfit.out Hv.out).mono ?_
        rintro e w1 ⟨rfl, hg1⟩
        have B1 := B0.new hg1
        clear B0 hg1 d0 d1 d2 d3
        have d0 := B1.b.d0
        go_wp2_with fail
        refine (l6In_b _ _ _ _ Hin.out).mono ?_
        rintro e w2 ⟨rfl, rfl⟩
        have d1 := B1.b.d1
        have d2 := B1.b.d2
        have d3 := B1.b.d3
        go_wp2_with fail
        refine (l14Copy_any _ c w1 B1.b.cv (by have := HH.out.d4; omega) (fun l hl => by have := deque_len HH.out l hl; omega) (by have := HH.out.rl; have := planValid_len HH.out.pv; omega) (fun l hl => by have := row_len HH.out l hl; omega) (by have := HH.out.counts; rw [this, lefts_len]; have := planValid_len HH.out.pv; omega) (by have := done_le HH.out; have := planValid_len HH.out.pv; omega)).mono ?_
        rintro e w3 ⟨v3, rfl, ⟨dv, kv, ov, rv, xs, ys, rfl, q1, q2, q3, q4, q5, q6⟩, hg3⟩
        have B3 := B1.new hg3
        have hs2 : w.heap.size ≤ w1.heap.size := B1.g.size
        obtain ⟨gd, capd, rfl, hcd, hbd⟩ := q1.form Hn1.out.symm (by omega)
        obtain ⟨Ar, nr, cr, rfl⟩ := q4.rl.val
        obtain ⟨Ak, nk, ck, rfl⟩ := q2.val
        obtain ⟨Ao, no, co, rfl⟩ := q3.ri.val
        clear d0 d1 d2 d3 B1 hg3
        have hRX : w.heap.size + 1 < w3.heap.size := B3.res.lt
        have hO := BoxO.lay (k := .slice Ak nk ck) (q1.low hs2) (q3.lower hs2) (q4.low hs2) q5 q6
        have hgX := World.grownBy_alloc w3 (.cells #[.slice (some ⟨gd, 0, none⟩) n1 capd, .slice Ak nk ck, .slice Ao no co, .slice Ar nr cr] 27) none
        have q2' := q2.new hgX
        have B4 := B3.new hgX
        have b0 := B4.b.d0
        go_upto_region 5 with fail
        generalize w3.alloc (.cells #[.slice (some ⟨gd, 0, none⟩) n1 capd, .slice Ak nk ck, .slice Ao no co, .slice Ar nr cr] 27) = w4 at hO hgX q2' B4 b0 ⊢
        generalize w3.heap.size = X at hO hRX ⊢
        clear q1 q2 q3 q4 q5 q6 hgX B3
        obtain ⟨gb, ob, lk, Bk, mk, ek, rfl, hlk, qk, hrk, -, -, -⟩ := B4.b.dq.at_ hk
        obtain ⟨gb', ob', lt, Bt, mt, et, e2, hlt, qt, hrt, -, -, -⟩ := B4.b.dq.at_ htn
        injection e2 with e2
        injection e2 with e2 e3
        subst e2 e3
        have hlk10 : lk.length ≤ 10 := deque_len HH.out lk (List.mem_of_getElem? hlk)
        have hlt10 : lt.length ≤ 10 := deque_len HH.out lt (List.mem_of_getElem? hlt)
        have Hgk : Hid (c.deques.getD k [] = lk) := by show _ = _; rw [List.getD_eq_getElem?_getD, hlk]; rfl
        have Hgt : Hid (c.deques.getD t [] = lt) := by show _ = _; rw [List.getD_eq_getElem?_getD, hlt]; rfl
        clear hlk hlt
        have x0 := hO.x.cell 0
        have hki : (k : Int) < (n1 : Int) := by omega
        have hti : (t : Int) < (n1 : Int) := by omega
        have hgb : gb < w4.heap.size := by simpa using cell_lt qk
        have hbB : w.heap.size < w4.heap.size := B4.b.b.lt
        have hXl : X < w4.heap.size := hO.x.lt
        go_cut [] (fun wx => ∃ xs', BoxO wx w.heap.size X (.slice (some ⟨gd, 0, none⟩) n1 capd) (.slice Ak nk ck) (.slice Ao no co) (.slice Ar nr cr) (c.deques.set t (lk ++ lt)) c.done c.rows xs' ys ∧ RI wx (.slice Ak nk ck) c.counts ∧ Begun w wx (.slice (some ⟨gb, ob, none⟩) n1 c1) (.slice A2 n2 c2) (.slice A3 n3 c3) (.slice A4 n4 c4) c)
        case first =>
          have hE : OwnI (w4.alloc (.cells #[] 3)).drew w4.heap.size (.slice (some ⟨w4.heap.size, 0, none⟩) 0 0) [] := OwnI.empty w4 (Nat.le_refl _)
          have hgE : w4.grownBy (w4.alloc (.cells #[] 3)).drew none := gb_drew (World.grownBy_alloc w4 _ none)
          have hrE := hrk.new hgE
          have hlen : ([] : List Int).length + lk.length ≤ 1000000000 := by simp only [List.length_nil]; omega
          have hlen2 : lk.length + lt.length ≤ 1000000000 := by omega
          have hws : w.heap.size ≤ w4.heap.size := B4.g.size
          have hgbw : gb < w.heap.size := by
            obtain ⟨g', o', l', B', m', e', e3, _, q', _⟩ := (Hcv.out.form').at_ hk
            injection e3 with e3
            injection e3 with e3
            subst e3
            simpa using cell_lt q'
          have hgdw : w.heap.size ≤ gd := (hO.dq.lt gd rfl).1
          have hne1 : w.heap.size ≠ gd := fun e => B4.b.b.ne_ hO.dqB.choose_spec (by decide) e
          have hne2 : gb ≠ gd := by omega
          have hne3 : X ≠ gd := fun e => hO.x.ne_ hO.dqB.choose_spec (by decide) e
          clear hgbw hgdw
          go_region_held3 (fun w' => w'.cell? ⟨w.heap.size, 0, none⟩ = some (.slice (some ⟨gb, ob, none⟩) n1 c1) ∧ w'.cell? ⟨gb, ob + k, none⟩ = some (.slice Bk mk ek) ∧ w'.cell? ⟨gb, ob + t, none⟩ = some (.slice Bt mt et) ∧ w'.cell? ⟨X, 0, none⟩ = some (.slice (some ⟨gd, 0, none⟩) n1 capd)) (go_keep) (first
            | (refine step_extend_ints (w := (w4.alloc (.cells #[] 3)).drew) (base := w4.heap.size) (v := .slice (some ⟨w4.heap.size, 0, none⟩) 0 0) (xv := .slice Bk mk ek) (l0 := []) (l := lk) (.tmp 41) (.tmp 46) rfl rfl hE hrE hlen hgE.size rfl rfl ?_; intro v5 w5 hown5 hg5; have hg5' := hE.gb hgE hg5 (Nat.le_refl _); have hown5' : OwnI w5 w4.heap.size v5 lk := (by simpa using hown5); have b05 := cell_new b0 hg5'; have qk5 := cell_new qk hg5'; have qt5 := cell_new qt hg5'; have x05 := cell_new x0 hg5'; have hrt5 := hrt.new hg5'; obtain ⟨A5, n5, c5, rfl⟩ := hown5.ri.val)
            | (refine step_extend_ints (w := w5) (base := w4.heap.size) (v := .slice A5 n5 c5) (xv := .slice Bt mt et) (l0 := lk) (l := lt) (.tmp 47) (.tmp 52) rfl rfl hown5' hrt5 hlen2 hg5'.size rfl rfl ?_; intro v6 w6 hown6 hg6; have hg6' := hown5'.gb hg5' hg6 (Nat.le_refl _); have b06 := cell_new b0 hg6'; have qk6 := cell_new qk hg6'; have qt6 := cell_new qt hg6'; have x06 := cell_new x0 hg6'; have hO6 := hO.new hg6'; have hC6 := q2'.new hg6'; have B6 := B4.new hg6'; obtain ⟨⟨u0, cR, fR⟩, hst7, hE7, hbd7, hO7, hC7⟩ := hO6.setDeq2 htD (hown6.lower hws) hC6 (fun u hu g hg => (hO.lts u hu g hg).2) (fun g hg => (hown6.lt g hg).1); obtain ⟨A6, n6, c6, rfl⟩ := hown6.ri.val; have b07 := hst7.cell (by exact b06) (fun e => hne1 (by injection e)); have qk7 := hst7.cell (by exact qk6) (fun e => hne2 (by injection e)); have qt7 := hst7.cell (by exact qt6) (fun e => hne2 (by injection e)); have x07 := hst7.cell (by exact x06) (fun e => hne3 (by injection e))))
          all_goals
            go_wp2_with fail
            go_meet
            exact ⟨_, hO7, hC7, B6.past hst7 (hE7 _ (by decide)) hbd7 Hcv.out⟩
        case rest =>
          obtain ⟨xs', hO7, hC7, B7⟩ := hcut
          have x0 := hO7.x.cell 0
          have hk1 : k + 1 ≤ n1 := hk
          have hcapd : n1 ≤ capd := hcd
          have hw1 : IntKind.i64.wrap ((k : Int) + 1) = ((k + 1 : Nat) : Int) := by rw [IntWalk.i64_in _ (by omega)]; rfl
          have hb1 : (0 : Int) ≤ (k : Int) + 1 := by omega
          have hb2 : (k : Int) + 1 ≤ (n1 : Int) := by omega
          have hb3 : (k : Int) ≤ (n1 : Int) := by omega
          have hb4 : (k : Int) + 1 ≤ (capd : Int) := by omega
          have hkc : k ≤ capd := by omega
          have hk1c : k + 1 ≤ capd := by omega
          have hlL : n1 = (c.deques.set t (lk ++ lt)).length := by rw [List.length_set]; exact Hn1.out
          have hlb : (c.deques.set t (lk ++ lt)).length ≤ 1000000 := by rw [← hlL]; have := HH.out.d4; have := Hn1.out; omega
          obtain ⟨ox, hox, hox2⟩ : ∃ ox, (if capd = k + 1 then some (⟨gd, 0, none⟩ : Addr) else some ⟨gd, k + 1, none⟩) = some ⟨gd, ox, none⟩ ∧ (ox = k + 1 ∨ n1 = k + 1) := by
            by_cases hck : capd = k + 1
            · exact ⟨0, by rw [if_pos hck], .inr (by omega)⟩
            · exact ⟨k + 1, by rw [if_neg hck], .inl rfl⟩
          have hcD : wc.grownBy wc.drew none := gb_drew (gb_refl _ none)
          have hdqD := hO7.dq.new hcD
          have hszD : w.heap.size ≤ wc.drew.heap.size := B7.g.size
          have hEd : NotE wc.drew 27 (some gd) := hdqD.notE (by decide)
          have hId : NotE wc.drew 3 (some gd) := hdqD.notE (by decide)
          have hXR : X ≠ w.heap.size + 1 := by omega
          have HlL := Lib.hid hlL
          clear hlL
          go_wp2_with fail
          go_region_law (refine step_del_lx (w := wc.drew) (base := w.heap.size) (g := gd) (n := n1) (cap := capd) (k := k) (ox := ox) (ll := c.deques.set t (lk ++ lt)) (xs := xs') (.tmp 58) (.tmp 63) rfl rfl hdqD hlb hszD hk HlL.out hox2 rfl rfl ?_; intro v9 w9 hown9 hg9; have hx9 := (hO7.x.grown hcD (by simp)).past hg9 hEd; have x09 := hx9.cell 0; have f09 := hx9.frozen 0; have hC9 := (hC7.new hcD).grown hg9 hId; have hN9 := (hO7.dn.new hcD).grown hg9 hId; have hR9 := (hO7.ro.new hcD).far hg9 hId (hO7.dr gd rfl); have hres9 := (B7.res.grown hcD (by simp)).past hg9 hEd; have g9 := gb_new (gb_trans B7.g hcD) hg9 (fun g e => by cases e; exact .inl (hO7.dq.lt gd rfl).1); obtain ⟨A9, n9, c9, rfl⟩ := hown9.rl.val)
          all_goals
            have hst9 : w9.grownBy (w9.setCell ⟨X, 0, none⟩ (.slice A9 n9 c9)) (some X) := gb_set (p := ⟨X, 0, none⟩) (gb_refl w9 (some X)) (.inr rfl) _
            have hxI : NotE w9 3 (some X) := NotE.blk hx9 (by decide)
            have hxL : NotE w9 25 (some X) := NotE.blk hx9 (by decide)
            have hx10 := hx9.set_ 0 (.slice A9 n9 c9)
            have g10 := gb_new g9 hst9 (fun g e => by cases e; exact .inl (by omega))
            have hres10 := hres9.grown hst9 (by simp; omega)
            have hcv10 : CV (w9.setCell ⟨X, 0, none⟩ (.slice A9 n9 c9)) (.agg #[.slice A9 n9 c9, .slice Ak nk ck, .slice Ao no co, .slice Ar nr cr]) { c with deques := (c.deques.set t (lk ++ lt)).eraseIdx k } :=
              ⟨_, _, _, _, rfl, (hown9.grown hst9 hxI hxL).rl, hC9.grown hst9 hxI, (hN9.grown hst9 hxI).ri, (hR9.grown hst9 hxI hxL).rl⟩
            clear hown9 hC9 hN9 hR9 hres9 hx9 hst9 hxI hxL hg9 g9 x09 f09
            generalize w9.setCell ⟨X, 0, none⟩ (.slice A9 n9 c9) = w10 at hx10 g10 hres10 hcv10 ⊢
            have z0 := hx10.cell 0
            have z1 := hx10.cell 1
            have z2 := hx10.cell 2
            have z3 := hx10.cell 3
            have y0 := hres10.cell 0
            have y1 := hres10.cell 1
            have y2 := hres10.cell 2
            have y3 := hres10.cell 3
            have f0 := hres10.frozen 0
            have f1 := hres10.frozen 1
            have f2 := hres10.frozen 2
            have f3 := hres10.frozen 3
            have hfin := Lib.hid (turnGive g10 hres10 hcv10)
            clear hx10 g10 hres10 hcv10 x0 hO7 hC7 B7
            go_wp2_with fail
            refine bodyPost_ret (v := .tuple #[.agg #[.slice A9 n9 c9, .slice Ak nk ck, .slice Ao no co, .slice Ar nr cr], .bool true]) (by simp [results, Tryz.results43, go_sem, y0, y1, y2, y3]) rfl ?_
            rw [Heq.out, Hgk.out, Hgt.out]
            exact hfin.out
    · have Hin : Hid ((decide (0 ≤ wk) && decide (wk ≤ (n1 : Int) - 1)) = false) := by
        show _ = _
        rw [Bool.and_eq_false_iff, decide_eq_false_iff_not, decide_eq_false_iff_not]
        omega
      have Hr : Hid (loseWorker plan c wk = none) := by
        show _ = _
        refine lose_out ?_
        unfold isWorker
        rw [← Hn1.out, Bool.and_eq_false_iff, decide_eq_false_iff_not, decide_eq_false_iff_not]
        omega
      clear hv hin
      go_enter Tryz.func43, Tryz.ntmps43
      go_upto_region 1 with fail
      generalize ((w.alloc (.cells #[.slice A1 n1 c1, .slice A2 n2 c2, .slice A3 n3 c3, .slice A4 n4 c4] 27)).alloc (.cells #[.slice none 0 0, .slice none 0 0, .slice none 0 0, .slice none 0 0] 27)) = W at B0 ⊢
      have d0 := B0.b.d0
      have d1 := B0.b.d1
      have d2 := B0.b.d2
      have d3 := B0.b.d3
      go_wp2_with fail
      refine (specCrewValid_b _ _ plan c W (hp.new B0.g) B0.b.cv hpl Hfit.out Hv.out).mono ?_
      rintro e w1 ⟨rfl, hg1⟩
      have B1 := B0.new hg1
      clear B0 hg1 d0 d1 d2 d3
      have d0 := B1.b.d0
      have y0 := B1.res.cell 0
      have y1 := B1.res.cell 1
      have y2 := B1.res.cell 2
      have y3 := B1.res.cell 3
      have f0 := B1.res.frozen 0
      have f1 := B1.res.frozen 1
      have f2 := B1.res.frozen 2
      have f3 := B1.res.frozen 3
      have hfin := Lib.hid (turnFail B1.g)
      clear B1
      go_wp2_with fail
      refine (l6In_b _ _ _ _ Hin.out).mono ?_
      rintro e w2 ⟨rfl, rfl⟩
      go_wp2_with fail
      refine bodyPost_ret (v := .tuple #[.agg #[.slice none 0 0, .slice none 0 0, .slice none 0 0, .slice none 0 0], .bool false]) (by simp [results, Tryz.results43, go_sem, y0, y1, y2, y3]) rfl ?_
      rw [Hr.out]
      exact hfin.out
  · have hv' : crewValid plan c = false := by simpa using hv
    have Hv := Lib.hid hv'
    have Hr : Hid (loseWorker plan c wk = none) := lose_bad hv'
    clear hv hv'
    go_enter Tryz.func43, Tryz.ntmps43
    go_upto_region 1 with fail
    generalize ((w.alloc (.cells #[.slice A1 n1 c1, .slice A2 n2 c2, .slice A3 n3 c3, .slice A4 n4 c4] 27)).alloc (.cells #[.slice none 0 0, .slice none 0 0, .slice none 0 0, .slice none 0 0] 27)) = W at B0 ⊢
    have d0 := B0.b.d0
    have d1 := B0.b.d1
    have d2 := B0.b.d2
    have d3 := B0.b.d3
    go_wp2_with fail
    refine (specCrewValid_b _ _ plan c W (hp.new B0.g) B0.b.cv hpl Hfit.out Hv.out).mono ?_
    rintro e w1 ⟨rfl, hg1⟩
    have B1 := B0.new hg1
    clear B0 hg1 d0 d1 d2 d3
    have y0 := B1.res.cell 0
    have y1 := B1.res.cell 1
    have y2 := B1.res.cell 2
    have y3 := B1.res.cell 3
    have f0 := B1.res.frozen 0
    have f1 := B1.res.frozen 1
    have f2 := B1.res.frozen 2
    have f3 := B1.res.frozen 3
    have hfin := Lib.hid (turnFail B1.g)
    clear B1
    go_wp2_with fail
    refine bodyPost_ret (v := .tuple #[.agg #[.slice none 0 0, .slice none 0 0, .slice none 0 0, .slice none 0 0], .bool false]) (by simp [results, Tryz.results43, go_sem, y0, y1, y2, y3]) rfl ?_
    rw [Hr.out]
    exact hfin.out
end Go.Proofs.YtihobnheficpjaaGreatDoor
namespace Go.Proofs.YtihobnheficpjaaGreatDoor
open Go.RowKit

/-- The places of the counts that are nought. -/
def zeroTo (cs : List Int) (k : Nat) : List Int := ((List.range k).filter fun i => decide (cs.getD i 0 = 0)).map fun i : Nat => (i : Int)
def zeroes (cs : List Int) : List Int := zeroTo cs cs.length
theorem zeroTo_succ {cs : List Int} {k : Nat} {x : Int} (h : cs[k]? = some x) : zeroTo cs (k + 1) = zeroTo cs k ++ if x = 0 then [(k : Int)] else [] := by
  unfold zeroTo
  rw [List.range_succ, List.filter_append, List.map_append]
  have e : cs.getD k 0 = x := by rw [List.getD_eq_getElem?_getD, h]; rfl
  by_cases hx : x = 0
  · simp only [List.filter_cons, List.filter_nil, e, hx, decide_true, if_true, List.map_cons, List.map_nil]
  · simp only [List.filter_cons, List.filter_nil, e, hx, decide_false, Bool.false_eq_true, if_false, List.map_nil]
theorem zeroTo_len (cs : List Int) (k : Nat) : (zeroTo cs k).length ≤ k := by
  unfold zeroTo
  rw [List.length_map]
  have := List.length_filter_le (fun i => decide (cs.getD i 0 = 0)) (List.range k)
  rwa [List.length_range] at this
theorem zeroes_ready {plan : List Node} (hv : planValid plan = true) : zeroes (countsOf plan) = readyOf plan [] := by
  have key : ∀ k, k ≤ plan.length → zeroTo (countsOf plan) k = readyTo plan [] k := by
    intro k
    induction k with
    | zero => intro _; rfl
    | succ k ih =>
      intro hk
      have hx : plan[k]? = some plan[k] := List.getElem?_eq_getElem (by omega)
      have hc : (countsOf plan)[k]? = some ((needsOf plan k).length : Int) := by
        unfold countsOf
        rw [List.getElem?_map, List.getElem?_range (by omega)]
        rfl
      rw [zeroTo_succ hc, readyTo_succ [] hx, ih (by omega)]
      have hz : (((needsOf plan k).length : Int) = 0) ↔ readyNode [] (plan[k], k) = true := by
        unfold readyNode
        rw [needsOf_frm, frmAt_get hx]
        simp only [List.not_mem_nil, decide_false, Bool.not_false, Bool.true_and]
        constructor
        · intro h
          have h0 : dedup plan[k].frm = [] := List.eq_nil_of_length_eq_zero (by omega)
          rw [List.all_eq_true]
          intro f hf
          exfalso
          have := (mem_dedup (i := f.toNat)).2 ⟨f, hf, rfl⟩
          rw [h0] at this
          cases this
        · intro h
          have h0 : plan[k].frm = [] := by
            cases hfr : plan[k].frm with
            | nil => rfl
            | cons a r => rw [hfr] at h; simp at h
          rw [h0]
          rfl
      by_cases h0 : ((needsOf plan k).length : Int) = 0
      · rw [if_pos h0, if_pos (hz.1 h0)]
      · rw [if_neg h0, if_neg (fun e => h0 (hz.2 e)), List.append_nil]
  unfold zeroes readyOf
  rw [if_pos hv]
  have : (countsOf plan).length = plan.length := by unfold countsOf; rw [List.length_map, List.length_range]
  rw [this]
  exact key _ (Nat.le_refl _)
set_option maxHeartbeats 800000 in
set_option maxRecDepth 20000 in
theorem specCountsReady_any (v : Value) (cs : List Int) (w : World) (h : RI w v cs) (hl : cs.length ≤ 1000000) : Calls Tryz.prog 145 #[v] w (IntsOut w (zeroes cs)) := by
  obtain ⟨A, n, c, rfl, hnc, hn⟩ := h.form'
  rw [← hn] at hl
  have Hn := Lib.hid hn
  have h0 : OwnI (w.alloc (.cells #[] 3)) w.heap.size (.slice (some ⟨w.heap.size, 0, none⟩) 0 0) [] := OwnI.empty w (Nat.le_refl _)
  clear hn
  go_enter Tryz.func145, Tryz.ntmps145
  go_wp2_with fail
  go_loopg [3, 4] (n + 1) (fun mm out i wr => ∃ k : Nat, k ≤ n ∧ mm = n + 1 - k ∧ i = .int .i64 k ∧ OwnI wr w.heap.size out (zeroTo cs k) ∧ w.grownBy wr none)
  case atStart => exact ⟨0, Nat.zero_le _, rfl, rfl, h0, gb_alloc (gb_refl w none) _⟩
  case round =>
    clear h0
    obtain ⟨k, hk, rfl, rfl, hown, hg⟩ := hrel
    have hzl := zeroTo_len cs k
    by_cases hlt : k < n
    · obtain ⟨g, o, x, rfl, hx, c0⟩ := (h.new hg).at_ hlt
      have hs := zeroTo_succ hx
      have hsz := hg.size
      clear hx
      by_cases h0 : x = 0
      · have hq : (x == 0) = true := by simpa using h0
        rw [if_pos h0] at hs
        have Hs := Lib.hid hs
        clear hs h0
        go_wp2_with (at_builtin; go_must (refine wp_push_int _ _ rfl rfl hown (by omega) hsz rfl rfl ?_))
        intro v2 w2 hown2 hg2
        rw [← Hs.out] at hown2
        have hg3 := hown.gb hg hg2 (Nat.le_refl _)
        obtain ⟨A2, n2, c2, rfl⟩ := hown2.ri.val
        go_wp2_with fail
        go_roundg (n + 1 - (k + 1))
        case measure => omega
        case rel => exact ⟨k + 1, by omega, rfl, by go_num, hown2, hg3⟩
      · have hq : (x == 0) = false := by simpa using h0
        rw [if_neg h0, List.append_nil] at hs
        rw [← hs] at hown
        obtain ⟨A2, n2, c2, rfl⟩ := hown.ri.val
        clear hs h0
        go_wp2_with fail
        go_roundg (n + 1 - (k + 1))
        case measure => omega
        case rel => exact ⟨k + 1, by omega, rfl, by go_num, hown, hg⟩
    · obtain rfl : n = k := by omega
      obtain ⟨A2, n2, c2, rfl⟩ := hown.ri.val
      have ho2 : OwnI wr w.heap.size (.slice A2 n2 c2) (zeroes cs) := by unfold zeroes; rw [← Hn.out]; exact hown
      go_wp2_with fail
      go_ret
      exact ⟨_, rfl, ho2, hg⟩
theorem wp_push_lx {ops : Array Oper} {rest : List Oper} {o : Oper} {a : Act} {Q : Exit → Act → World → Prop} {w : World} {l : List Int} {f : Value}
    (s x : Operand) (hgd : o.guard = none) (ho : o.op = .call { callee := .builtin .append, args := #[s, x], argTypes := #[24, 24] })
    {base : Nat} {v : Value} {ll : List (List Int)} {xs : List Value} (hown : LX w base v ll xs) (hf : OwnI w base f l) (hn : ll.length ≤ 1000000000) (hbase : base ≤ w.heap.size)
    (hs : a.eval s = v) {N : Nat} (hx : a.eval x = .slice (some ⟨N, 0, none⟩) 1 1) (hN : N = w.heap.size)
    (h : ∀ v' w', LX w' base v' (ll ++ [l]) (xs ++ [f]) → w.grownBy w' v.ownBlock → wpList Tryz.prog ops Q rest (a.put o.dst v') w') :
    wpList Tryz.prog ops Q (o :: rest) a (w.alloc (.cells #[f] 25)) := by
  subst hN
  refine wpList_plain hgd fun K hK => ?_
  have := step_push_lx (ops := ops) (E := False) (Q := Q) (K := K) s x hgd ho hown hf hn hbase hs hx (fun v' w' h1 h2 => hK _ _ (h v' w' h1 h2))
  rwa [if_pos (by simp [Region.wanted, hgd])] at this
theorem wp_push_list_n {ops : Array Oper} {rest : List Oper} {o : Oper} {a : Act} {Q : Exit → Act → World → Prop} {w : World} {l : List Int} {f : Value}
    (s x : Operand) (hgd : o.guard = none) (ho : o.op = .call { callee := .builtin .append, args := #[s, x], argTypes := #[24, 24] })
    {base : Nat} {v : Value} {ll : List (List Int)} (hown : OwnL w base v ll) (hf : RI w f l) (hn : ll.length ≤ 1000000000) (hbase : base ≤ w.heap.size)
    (hs : a.eval s = v) {N : Nat} (hx : a.eval x = .slice (some ⟨N, 0, none⟩) 1 1) (hN : N = w.heap.size)
    (h : ∀ v' w', OwnL w' base v' (ll ++ [l]) → w.grownBy w' v.ownBlock → wpList Tryz.prog ops Q rest (a.put o.dst v') w') :
    wpList Tryz.prog ops Q (o :: rest) a (w.alloc (.cells #[f] 25)) := by
  subst hN
  exact wp_push_list s x hgd ho hown hf hn hbase hs hx h
theorem OwnL.empties {w w' : World} {base m : Nat} {v : Value} {row : Option Nat} (h : OwnL w base v (List.replicate m [])) (hg : w.grownBy w' row) (hr : NotE w 25 row) : OwnL w' base v (List.replicate m []) := by
  obtain ⟨xs, h1, h2⟩ := h
  refine ⟨xs, own_grown h1 hg hr, fun i l hi => ?_⟩
  obtain ⟨u, k1, k2⟩ := h2 i l hi
  obtain rfl : l = [] := by
    rw [List.getElem?_replicate] at hi
    split at hi
    · injection hi with hi; exact hi.symm
    · cases hi
  exact ⟨u, k1, k2.empty w'⟩
/-- A row of the call's own, put in the place of another one. -/
theorem LX.turnx {w w' : World} {base g n cap k : Nat} {ll : List (List Int)} {xs : List Value} {u u' : Value} {l0 l' : List Int} (h : LX w base (.slice (some ⟨g, 0, none⟩) n cap) ll xs) (hk : k < ll.length) (hu : xs[k]? = some u) (hg : w.grownBy w' u.ownBlock) (hap : Apart xs) (ho : OwnI w' base u' l') (hI : OwnI w base u l0) (hb : u'.ownBlock = u.ownBlock ∨ ∃ b, u'.ownBlock = some b ∧ w.heap.size ≤ b) :
    LX (w'.setCell ⟨g, k, none⟩ u') base (.slice (some ⟨g, 0, none⟩) n cap) (ll.set k l') (xs.set k u') ∧ Apart (xs.set k u') := by
  have hNu : NotE w 25 u.ownBlock := hI.notE (by decide)
  have hcs := own_grown h.1 hg hNu
  have hn : n = ll.length := by
    rcases h.1.2 with ⟨e, _⟩ | ⟨_, _, _, e, _⟩
    · cases e
    · injection e
  subst hn
  have hst : w'.grownBy (w'.setCell ⟨g, k, none⟩ u') (some g) := gb_set (p := ⟨g, k, none⟩) (gb_refl w' (some g)) (.inr rfl) _
  have s1 := World.ownsRow.stored hcs k u'
  have hne : NotE w' 3 (some g) := NotE.own (v := .slice (some ⟨g, 0, none⟩) ll.length cap) hcs (by decide)
  have hxl := h.len
  have hkx : k < xs.length := by omega
  refine ⟨⟨by rw [List.length_set]; exact s1.1, fun i x hi => ?_⟩, ?_⟩
  · by_cases hik : i = k
    · subst hik
      rw [List.getElem?_set_self hk] at hi
      obtain rfl : l' = x := by simpa using hi
      exact ⟨u', by rw [List.getElem?_set_self hkx], ho.grown hst hne⟩
    · rw [List.getElem?_set_ne (fun e => hik e.symm)] at hi
      obtain ⟨y, k1, k2⟩ := h.2 i x hi
      refine ⟨y, by rw [List.getElem?_set_ne (fun e => hik e.symm)]; exact k1, ?_⟩
      have hyu : y.ownBlock = none ∨ y.ownBlock ≠ u.ownBlock := by
        cases hy : y.ownBlock with
        | none => exact .inl rfl
        | some b =>
          right
          intro e
          rw [Apart.iff] at hap
          rcases Nat.lt_or_gt_of_ne hik with hlt | hlt
          · exact hap i k y u b hlt k1 hu hy e.symm
          · exact hap k i u y b hlt hu k1 e.symm hy
      exact (k2.apart_ hg hyu).grown hst hne
  · rw [Apart.iff] at hap ⊢
    have hlts := h.lts
    intro i j a b gg hij ha hb' hga hgb
    have other : ∀ (i : Nat) (a : Value), i ≠ k → xs[i]? = some a → a.ownBlock = some gg → u'.ownBlock ≠ some gg := by
      intro i a hik ha hga e
      rcases hb with e2 | ⟨b2, e2, hge⟩
      · rw [e2] at e
        rcases Nat.lt_or_gt_of_ne hik with hlt | hlt
        · exact hap i k a u gg hlt ha hu hga e
        · exact hap k i u a gg hlt hu ha e hga
      · rw [e2] at e
        injection e with e
        have := (hlts a (List.mem_of_getElem? ha) gg hga).2
        omega
    by_cases hik : i = k
    · subst hik
      rw [List.getElem?_set_self hkx] at ha
      injection ha with ha
      subst ha
      rw [List.getElem?_set_ne (by omega)] at hb'
      exact other j b (by omega) hb' hgb hga
    · rw [List.getElem?_set_ne (fun e => hik e.symm)] at ha
      by_cases hjk : j = k
      · subst hjk
        rw [List.getElem?_set_self hkx] at hb'
        injection hb' with hb'
        subst hb'
        exact other i a hik ha hga hgb
      · rw [List.getElem?_set_ne (fun e => hjk e.symm)] at hb'
        exact hap i j a b gg hij ha hb' hga hgb
/-- A crew in the making, in block X. -/
structure NewMid (w wx : World) (X s0 b2 : Nat) (d k o r : Value) (cs : List Int) (D : List (List Int)) (m : Nat) (xs : List Value) : Prop where
  x : Blk wx X 27 #[d, k, o, r]
  dq : LX wx s0 d D xs
  ap : Apart xs
  kt : OwnI wx w.heap.size k cs
  kl : ∀ g, k.ownBlock = some g → g < s0
  od : ∀ w', RI w' o []
  ro : OwnL wx b2 r (List.replicate m [])
  dr : r = .slice none 0 0 ∨ ∀ g, d.ownBlock = some g → g < b2
  hb : s0 ≤ b2 ∧ w.heap.size ≤ s0
  hbx : b2 ≤ wx.heap.size
  res : Blk wx w.heap.size 27 #[.slice none 0 0, .slice none 0 0, .slice none 0 0, .slice none 0 0]
  hX : w.heap.size < X
  g : w.grownBy wx none
section
variable {w wx wy : World} {X s0 b2 m : Nat} {d k o r : Value} {cs : List Int} {D : List (List Int)} {xs : List Value}
theorem NewMid.new (M : NewMid w wx X s0 b2 d k o r cs D m xs) (hg : wx.grownBy wy none) : NewMid w wy X s0 b2 d k o r cs D m xs :=
  ⟨M.x.grown hg (by simp), M.dq.new hg, M.ap, M.kt.new hg, M.kl, M.od, M.ro.new hg, M.dr, M.hb, Nat.le_trans M.hbx hg.size, M.res.grown hg (by simp), M.hX, gb_trans M.g hg⟩
theorem NewMid.pushD (M : NewMid w wx X s0 b2 d k o (.slice none 0 0) cs D 0 xs) (hg : wx.grownBy wy d.ownBlock) {v' f : Value} (ho : LX wy s0 v' (D ++ [[]]) (xs ++ [f])) (hf : ∀ g, f.ownBlock = some g → ∀ u ∈ xs, ∀ g', u.ownBlock = some g' → g' < g) :
    wy.cell? ⟨X, 0, none⟩ = some d ∧ wy.frozen? ⟨X, 0, none⟩ = false ∧ NewMid w (wy.setCell ⟨X, 0, none⟩ v') X s0 b2 v' k o (.slice none 0 0) cs (D ++ [[]]) 0 (xs ++ [f]) := by
  have hE : NotE wx 27 d.ownBlock := M.dq.notE (by decide)
  have hI : NotE wx 3 d.ownBlock := M.dq.notE (by decide)
  have hx := M.x.past hg hE
  have hst : wy.grownBy (wy.setCell ⟨X, 0, none⟩ v') (some X) := gb_set (p := ⟨X, 0, none⟩) (gb_refl wy (some X)) (.inr rfl) _
  have hn2 : NotE wy 3 (some X) := NotE.blk hx (by decide)
  have hn3 : NotE wy 25 (some X) := NotE.blk hx (by decide)
  have hg2 : w.grownBy wy none := M.dq.gb M.g hg M.hb.2
  refine ⟨hx.cell 0, hx.frozen 0, hx.set_ 0 _, ho.grown hst hn2 hn3, ?_, (M.kt.grown hg hI).grown hst hn2, M.kl, M.od, OwnL.nil _ _, .inl rfl, M.hb, Nat.le_trans M.hbx (Nat.le_trans hg.size hst.size), (M.res.past hg hE).grown hst (by simp; have := M.hX; omega), M.hX, gb_new hg2 hst (fun g e => by cases e; exact .inl (Nat.le_of_lt M.hX))⟩
  unfold Apart
  rw [List.pairwise_append]
  refine ⟨M.ap, List.pairwise_singleton _ _, fun a ha b hb g hga hgb => ?_⟩
  obtain rfl : b = f := by simpa using hb
  have := hf g hgb a ha g hga
  omega
theorem NewMid.pushR (M : NewMid w wx X s0 b2 d k o r cs D m xs) (hlt : ∀ g, d.ownBlock = some g → g < b2) (hg : wx.grownBy wy r.ownBlock) {v' : Value} (ho : OwnL wy b2 v' (List.replicate m [] ++ [[]])) :
    wy.cell? ⟨X, 3, none⟩ = some r ∧ wy.frozen? ⟨X, 3, none⟩ = false ∧ NewMid w (wy.setCell ⟨X, 3, none⟩ v') X s0 b2 d k o v' cs D (m + 1) xs := by
  have hE : NotE wx 27 r.ownBlock := M.ro.notE (by decide)
  have hI : NotE wx 3 r.ownBlock := M.ro.notE (by decide)
  have hx := M.x.past hg hE
  have hst : wy.grownBy (wy.setCell ⟨X, 3, none⟩ v') (some X) := gb_set (p := ⟨X, 3, none⟩) (gb_refl wy (some X)) (.inr rfl) _
  have hn2 : NotE wy 3 (some X) := NotE.blk hx (by decide)
  have hn3 : NotE wy 25 (some X) := NotE.blk hx (by decide)
  have hg2 : w.grownBy wy none := M.ro.gb M.g hg (Nat.le_trans M.hb.2 M.hb.1)
  have hdq : LX wy s0 d D xs := by
    cases hr : r.ownBlock with
    | none => rw [hr] at hg; exact M.dq.new hg
    | some b =>
      rw [hr] at hg
      refine M.dq.far hg (hr ▸ hI) (fun e => ?_)
      have := hlt b e
      have := (M.ro.lt b hr).1
      omega
  have er : List.replicate m ([] : List Int) ++ [[]] = List.replicate (m + 1) [] := by rw [List.replicate_succ']
  rw [er] at ho
  exact ⟨hx.cell 3, hx.frozen 3, hx.set_ 3 _, hdq.grown hst hn2 hn3, M.ap, (M.kt.grown hg hI).grown hst hn2, M.kl, M.od, ho.grown hst hn2 hn3, .inr hlt, M.hb, Nat.le_trans M.hbx (Nat.le_trans hg.size hst.size), (M.res.past hg hE).grown hst (by simp; have := M.hX; omega), M.hX, gb_new hg2 hst (fun g e => by cases e; exact .inl (Nat.le_of_lt M.hX))⟩
/-- One node is dealt to a worker. -/
theorem NewMid.deal {gd n cap j : Nat} {u u' : Value} {l0 l' : List Int} (M : NewMid w wx X s0 b2 (.slice (some ⟨gd, 0, none⟩) n cap) k o r cs D m xs) (hj : j < D.length) (hu : xs[j]? = some u) (hI : OwnI wx s0 u l0) (hg : wx.grownBy wy u.ownBlock) (ho : OwnI wy s0 u' l') (hb : u'.ownBlock = u.ownBlock ∨ ∃ b, u'.ownBlock = some b ∧ wx.heap.size ≤ b) :
    (∃ u0, wy.cell? ⟨gd, j, none⟩ = some u0 ∧ wy.frozen? ⟨gd, j, none⟩ = false) ∧ NewMid w (wy.setCell ⟨gd, j, none⟩ u') X s0 b2 (.slice (some ⟨gd, 0, none⟩) n cap) k o r cs (D.set j l') m (xs.set j u') := by
  obtain ⟨hcell, -, hst, hA⟩ := M.dq.turn hj hu hg M.ap ho ⟨_, hI⟩
  obtain ⟨h1, h2⟩ := M.dq.turnx hj hu hg M.ap ho hI hb
  have hEu : NotE wx 27 u.ownBlock := hI.notE (by decide)
  have hLu : NotE wx 25 u.ownBlock := hI.notE (by decide)
  have hgd : s0 ≤ gd := (M.dq.lt gd rfl).1
  have hw := M.hb.2
  have hg2 : w.grownBy wy none := gb_new M.g hg (fun g e => .inl (by have := (hI.lt g e).1; omega))
  refine ⟨hcell, (M.x.past hg hEu).past hst (hA _ (by decide)), h1, h2, (M.kt.apart2 hg (fun b hkb hub => by have := M.kl b hkb; have := (hI.lt b hub).1; omega)).grown hst (hA _ (by decide)), M.kl, M.od, ?_, M.dr, M.hb, Nat.le_trans M.hbx (Nat.le_trans hg.size hst.size), (M.res.past hg hEu).past hst (hA _ (by decide)), M.hX, gb_new hg2 hst (fun g e => by cases e; exact .inl (by omega))⟩
  have h3 := M.ro.empties hg hLu
  refine h3.far hst (hA _ (by decide)) (fun e => ?_)
  rcases M.dr with h | h
  · rw [h] at e; cases e
  · have := h gd rfl
    have := (M.ro.lt gd e).1
    omega
end
end Go.Proofs.YtihobnheficpjaaGreatDoor
namespace Go.Proofs.YtihobnheficpjaaGreatDoor
open Go.RowKit

theorem step_push_int_f {ops : Array Oper} {o : Oper} {a : Act} {K : Act → World → Prop} {Q : Exit → Act → World → Prop} {E : Prop} {w : World} {u : Int}
    (s x : Operand) (hgd : o.guard = none) (ho : o.op = .call { callee := .builtin .append, args := #[s, x], argTypes := #[25, 25] })
    {base : Nat} {v : Value} {l : List Int} (hown : OwnI w base v l) (hn : l.length ≤ 1000000000) (hbase : base ≤ w.heap.size)
    (hs : a.eval s = v) {N : Nat} (hx : a.eval x = .slice (some ⟨N, 0, none⟩) 1 1) (hN : N = w.heap.size)
    (h : ∀ v' w', OwnI w' base v' (l ++ [u]) → w.grownBy w' v.ownBlock → (v'.ownBlock = v.ownBlock ∨ ∃ b, v'.ownBlock = some b ∧ w.heap.size ≤ b) → K (a.put o.dst v') w') :
    if Region.wanted o (yielded ops a.tmps) = true then Oper.wp Tryz.prog o a (w.alloc (.cells #[.int .i64 u] 3)) K Q else E := by
  subst hN
  have hw : Region.wanted o (yielded ops a.tmps) = true := by simp [Region.wanted, hgd]
  rw [if_pos hw]
  have hnews : ∀ j y, [Value.int .i64 u][j]? = some y → (w.alloc (.cells #[.int .i64 u] 3)).cell? ((⟨w.heap.size, 0, none⟩ : Addr).add j) = some y := by
    intro j y hj
    have hadd : (⟨w.heap.size, 0, none⟩ : Addr).add j = ⟨w.heap.size, j, none⟩ := by unfold Addr.add; split <;> simp_all
    rw [hadd, World.cell?_alloc_new]
    simpa using hj
  obtain ⟨v', w', hr, h2, h3, h4⟩ := append_own_block (P := Tryz.prog) (t := 25) (ty := o.type) (c := 1) Tryz.underlying25 info3 rfl (by decide) (World.ownsRow.alloc hown (.cells #[.int .i64 u] 3)) (news := [.int .i64 u]) rfl hnews (by intro y hy; simp at hy; subst hy; rfl) (by unfold maxLen; omega) (by omega) (by simp; omega)
  unfold Oper.wp execOp
  simp only [ho, resolve, invoke, builtin, Sem.run_bind, Sem.run_pure, Result.andThen_ok, List.map_toArray, List.map_cons, List.map_nil, hs, hx, hr]
  refine h v' w' (by unfold OwnI; simpa using h2) ⟨h3.os, h3.tape, h3.output, Nat.le_trans (by simp) h3.size, fun k hk hne => (h3.block k (by simp; omega) hne).trans (Below.heap_alloc w _ k hk)⟩ (h4.imp id fun e => ⟨_, e, by simp⟩)
theorem step_push_int_fd {ops : Array Oper} {o : Oper} {a : Act} {K : Act → World → Prop} {Q : Exit → Act → World → Prop} {E : Prop} {w : World} {u : Int}
    (s x : Operand) (hgd : o.guard = none) (ho : o.op = .call { callee := .builtin .append, args := #[s, x], argTypes := #[25, 25] })
    {base : Nat} {v : Value} {l : List Int} (hown : OwnI w.drew base v l) (hn : l.length ≤ 1000000000) (hbase : base ≤ w.heap.size)
    (hs : a.eval s = v) {N : Nat} (hx : a.eval x = .slice (some ⟨N, 0, none⟩) 1 1) (hN : N = w.heap.size)
    (h : ∀ v' w', OwnI w' base v' (l ++ [u]) → w.drew.grownBy w' v.ownBlock → (v'.ownBlock = v.ownBlock ∨ ∃ b, v'.ownBlock = some b ∧ w.drew.heap.size ≤ b) → K (a.put o.dst v') w') :
    if Region.wanted o (yielded ops a.tmps) = true then Oper.wp Tryz.prog o a (w.alloc (.cells #[.int .i64 u] 3)).drew K Q else E :=
  step_push_int_f (w := w.drew) s x hgd ho hown hn hbase hs hx hN h
theorem dealt_succ {plan : List Node} {n k : Nat} {x : Int} (hx : (readyOf plan [])[k]? = some x) : dealt plan n (k + 1) = (dealt plan n k).set (k % n) ((dealt plan n k).getD (k % n) [] ++ [x]) := by
  obtain ⟨hk, rfl⟩ := List.getElem?_eq_some_iff.1 hx
  unfold dealt
  have hl : ((readyOf plan []).take k).length = k := by rw [List.length_take]; omega
  rw [List.take_succ_eq_append_getElem hk, List.zipIdx_append, List.foldl_append, hl]
  simp only [List.zipIdx_cons, List.zipIdx_nil, List.foldl_cons, List.foldl_nil, Nat.zero_add]
theorem dealt_len {plan : List Node} {n k : Nat} (hn : 0 < n) (hk : k ≤ (readyOf plan []).length) : (dealt plan n k).length = n := (dealt_gen n hn (readyOf plan []) k hk).1
theorem dealt_row {plan : List Node} {n k : Nat} (hn : 0 < n) (hk : k ≤ (readyOf plan []).length) (hk10 : k ≤ 10) : ∀ l ∈ dealt plan n k, l.length ≤ 10 := by
  intro l hl
  have h1 := (dealt_gen n hn (readyOf plan []) k hk).2.length_eq
  have h2 : l.length ≤ (dealt plan n k).flatten.length := (List.sublist_flatten_of_mem hl).length_le
  have h3 : ((readyOf plan []).take k).length ≤ 10 := by rw [List.length_take]; omega
  unfold dealt at h2
  omega
theorem crewNew_bad {plan : List Node} {n : Int} (h : planValid plan = false) : crewNew plan n = none := by unfold crewNew; rw [h]; rfl
theorem crewNew_out {plan : List Node} {n : Int} (h : ¬ (1 ≤ n ∧ n ≤ 4)) : crewNew plan n = none := by
  unfold crewNew
  split
  · rename_i hc
    simp only [Bool.and_eq_true, decide_eq_true_eq] at hc
    exact absurd hc.2 h
  · rfl
theorem crewNew_eq {plan : List Node} {n : Nat} (hv : planValid plan = true) (h1 : 1 ≤ n) (h4 : n ≤ 4) : crewNew plan (n : Int) = some { deques := dealt plan n (readyOf plan []).length, counts := countsOf plan, done := [], rows := List.replicate plan.length [] } := by
  unfold crewNew
  rw [hv, decide_eq_true (show (1 : Int) ≤ n by omega), decide_eq_true (show (n : Int) ≤ 4 by omega), Int.toNat_natCast]
  rfl
theorem newFail {w wx : World} (hg : w.grownBy wx none) : TurnOut w none (.returned (.tuple #[.agg #[.slice none 0 0, .slice none 0 0, .slice none 0 0, .slice none 0 0], .bool false])) ((((wx.setCell ⟨w.heap.size, 0, none⟩ (.slice none 0 0)).setCell ⟨w.heap.size, 1, none⟩ (.slice none 0 0)).setCell ⟨w.heap.size, 2, none⟩ (.slice none 0 0)).setCell ⟨w.heap.size, 3, none⟩ (.slice none 0 0)) :=
  ⟨_, rfl, CV.zero _, gb_new hg (gb_set4 wx w.heap.size (.slice none 0 0) (.slice none 0 0) (.slice none 0 0) (.slice none 0 0)) (fun g e => by cases e; exact .inl (Nat.le_refl _))⟩
theorem newGive {w wx : World} {c : Crew} {d k o r : Value} (hg : w.grownBy wx none) (hR : Blk wx w.heap.size 27 #[.slice none 0 0, .slice none 0 0, .slice none 0 0, .slice none 0 0]) (hc : CV wx (.agg #[d, k, o, r]) c) : TurnOut w (some c) (.returned (.tuple #[.agg #[d, k, o, r], .bool true])) ((((wx.setCell ⟨w.heap.size, 0, none⟩ d).setCell ⟨w.heap.size, 1, none⟩ k).setCell ⟨w.heap.size, 2, none⟩ o).setCell ⟨w.heap.size, 3, none⟩ r) :=
  have hst := gb_set4 wx w.heap.size d k o r
  ⟨_, rfl, hc.grown hst (NotE.blk hR (by decide)) (NotE.blk hR (by decide)), gb_new hg hst (fun g e => by cases e; exact .inl (Nat.le_refl _))⟩
set_option maxHeartbeats 6400000 in
set_option maxRecDepth 20000 in
theorem specCrewNew_any (pv : Value) (plan : List Node) (n : Int) (w : World) (hp : RN w pv plan) (hpl : plan.length ≤ 1000000000) : Calls Tryz.prog 121 #[pv, .int .i64 n] w (TurnOut w (crewNew plan n)) := by
  obtain ⟨A, np, cp, rfl, -, hnp, -⟩ := hp.form'
  have Hnp := Lib.hid hnp
  have hR0 := Blk.new w 27 #[.slice none 0 0, .slice none 0 0, .slice none 0 0, .slice none 0 0]
  have hgR := World.grownBy_alloc w (.cells #[.slice none 0 0, .slice none 0 0, .slice none 0 0, .slice none 0 0] 27) none
  clear hnp
  by_cases hv : planValid plan = true
  · have Hv := Lib.hid hv
    have hnp10 : np ≤ 10 := by have := planValid_len hv; have := Hnp.out; omega
    by_cases hin : 1 ≤ n ∧ n ≤ 4
    · have Hin : Hid ((decide (1 ≤ n) && decide (n ≤ 4)) = true) := by show _ = _; simp [hin.1, hin.2]
      obtain ⟨n, rfl⟩ := Int.eq_ofNat_of_zero_le (show (0 : Int) ≤ n by omega)
      have h1n : 1 ≤ n := by omega
      have hn4 : n ≤ 4 := by omega
      have Hr : Hid (crewNew plan (n : Int) = some { deques := dealt plan n (readyOf plan []).length, counts := countsOf plan, done := [], rows := List.replicate plan.length [] }) := crewNew_eq hv h1n hn4
      clear hv hin
      go_enter Tryz.func121, Tryz.ntmps121
      go_upto_region 1 with fail
      generalize w.alloc (.cells #[.slice none 0 0, .slice none 0 0, .slice none 0 0, .slice none 0 0] 27) = W at hR0 hgR ⊢
      go_wp2_with fail
      refine (specPlanValid_b _ plan W (hp.new hgR) hpl Hv.out).mono ?_
      rintro e w1 ⟨rfl, hg1⟩
      have g1 := gb_trans hgR hg1
      have hR1 := hR0.grown hg1 (by simp)
      clear hgR hR0 hg1
      go_wp2_with fail
      refine (l6In_b _ _ _ _ Hin.out).mono ?_
      rintro e w2 ⟨rfl, rfl⟩
      go_wp2_with fail
      refine (l11Counts_any _ plan w1 (hp.new g1) Hv.out).mono ?_
      rintro e w2 ⟨kv, rfl, hkv, hg2⟩
      obtain ⟨Ak, nk, ck, rfl⟩ := hkv.ri.val
      have g2 := gb_trans g1 hg2
      have hR2 := hR1.grown hg2 (by simp)
      have hkw := hkv.low g1.size
      have hRlt := hR2.lt
      clear g1 hR1 hg2 hkv
      go_upto_region 4 with fail
      have hE0 : OwnI (w2.alloc (.cells #[] 3)) w2.heap.size (.slice (some ⟨w2.heap.size, 0, none⟩) 0 0) [] := OwnI.empty w2 (Nat.le_refl _)
      have hgE := World.grownBy_alloc w2 (.cells #[] 3) none
      have hBX := Blk.new (w2.alloc (.cells #[] 3)) 27 #[.slice none 0 0, .slice Ak nk ck, .slice (some ⟨w2.heap.size, 0, none⟩) 0 0, .slice none 0 0]
      have hgX := World.grownBy_alloc (w2.alloc (.cells #[] 3)) (.cells #[.slice none 0 0, .slice Ak nk ck, .slice (some ⟨w2.heap.size, 0, none⟩) 0 0, .slice none 0 0] 27) none
      have hg3 := gb_trans hgE hgX
      have M0 : NewMid w ((w2.alloc (.cells #[] 3)).alloc (.cells #[.slice none 0 0, .slice Ak nk ck, .slice (some ⟨w2.heap.size, 0, none⟩) 0 0, .slice none 0 0] 27)) (w2.alloc (.cells #[] 3)).heap.size w2.heap.size w2.heap.size (.slice none 0 0) (.slice Ak nk ck) (.slice (some ⟨w2.heap.size, 0, none⟩) 0 0) (.slice none 0 0) (countsOf plan) [] 0 [] :=
        ⟨hBX, LX.nil _ _, .nil, hkw.new hg3, fun g hg => (hkw.lt g hg).2, fun w' => hE0.ri.empty w', OwnL.nil _ _, .inl rfl, ⟨Nat.le_refl _, g2.size⟩, hg3.size, hR2.grown hg3 (by simp), Nat.lt_of_lt_of_le hRlt hgE.size, gb_trans g2 hg3⟩
      rw [World.size_alloc] at M0
      have hs0 : w2.heap.size ≤ ((w2.alloc (.cells #[] 3)).alloc (.cells #[.slice none 0 0, .slice Ak nk ck, .slice (some ⟨w2.heap.size, 0, none⟩) 0 0, .slice none 0 0] 27)).heap.size := hg3.size
      generalize ((w2.alloc (.cells #[] 3)).alloc (.cells #[.slice none 0 0, .slice Ak nk ck, .slice (some ⟨w2.heap.size, 0, none⟩) 0 0, .slice none 0 0] 27)) = w3 at M0 hs0 ⊢
      clear hE0 hgE hBX hgX hg3 hkw hR2 hRlt g2
      generalize w2.heap.size + 1 = X at M0 ⊢
      generalize w2.heap.size = s0 at M0 hs0 ⊢
      go_wp2_with fail
      go_loopg [7] (n + 1) (fun mm i wr => ∃ (k : Nat) (d : Value) (xs : List Value), k ≤ n ∧ mm = n + 1 - k ∧ i = .int .i64 k ∧ NewMid w wr X s0 s0 d (.slice Ak nk ck) (.slice (some ⟨s0, 0, none⟩) 0 0) (.slice none 0 0) (countsOf plan) (List.replicate k []) 0 xs)
      case atStart => exact ⟨0, _, _, Nat.zero_le _, rfl, rfl, M0⟩
      case round =>
        clear M0 hs0
        obtain ⟨k, d, xs, hk, rfl, rfl, M⟩ := hrel
        by_cases hlt : k < n
        · obtain ⟨Ad, nd, cd, rfl⟩ := M.dq.rl.val
          have x0 := M.x.cell 0
          have hXl : X < wr.heap.size := M.x.lt
          have hE : OwnI (wr.alloc (.cells #[] 3)) wr.heap.size (.slice (some ⟨wr.heap.size, 0, none⟩) 0 0) [] := OwnI.empty wr (Nat.le_refl _)
          have hgE := World.grownBy_alloc wr (.cells #[] 3) none
          have ME := M.new hgE
          have hbE : s0 ≤ wr.heap.size := M.hbx
          have hlen : (List.replicate k ([] : List Int)).length ≤ 1000000000 := by rw [List.length_replicate]; omega
          go_wp2_with (at_builtin; go_must (refine wp_push_lx (.tmp 30) (.tmp 32) rfl rfl ME.dq (hE.low hbE) hlen ME.hbx rfl rfl (by simp) ?_))
          intro v5 w5 hown5 hg5
          obtain ⟨z1, z2, M5⟩ := ME.pushD hg5 hown5 (fun g hg u hu g' hg' => by
            have h1 := (hE.lt g hg).1
            have h2 := (M.dq.lts u hu g' hg').2
            omega)
          have er : List.replicate k ([] : List Int) ++ [[]] = List.replicate (k + 1) [] := by rw [List.replicate_succ']
          rw [er] at M5
          obtain ⟨A5, n5, c5, rfl⟩ := hown5.rl.val
          clear hown5 hg5 ME hE hgE x0
          go_wp2_with fail
          go_roundg (n + 1 - (k + 1))
          case measure => omega
          case rel => exact ⟨k + 1, _, _, by omega, rfl, by go_num, M5⟩
        · obtain rfl : n = k := by omega
          obtain ⟨w4, rfl⟩ : ∃ w4 : World, w4 = wr := ⟨_, rfl⟩
          have M0 : NewMid w w4 X s0 w4.heap.size d (.slice Ak nk ck) (.slice (some ⟨s0, 0, none⟩) 0 0) (.slice none 0 0) (countsOf plan) (List.replicate n []) 0 xs := { M with ro := OwnL.nil _ _, dr := .inl rfl, hb := ⟨M.hbx, M.hb.2⟩, hbx := Nat.le_refl _ }
          have Hlt : Hid (∀ g, d.ownBlock = some g → g < w4.heap.size) := fun g hg => (M.dq.lt g hg).2
          clear M
          go_wp2_with fail
          generalize w4.heap.size = b2 at M0 Hlt
          go_loopg [8] (np + 1) (fun mm i wr => ∃ (k : Nat) (r : Value), k ≤ np ∧ mm = np + 1 - k ∧ i = .int .i64 k ∧ NewMid w wr X s0 b2 d (.slice Ak nk ck) (.slice (some ⟨s0, 0, none⟩) 0 0) r (countsOf plan) (List.replicate n []) k xs)
          case atStart => exact ⟨0, _, Nat.zero_le _, rfl, rfl, M0⟩
          case round =>
            clear M0
            obtain ⟨k, r, hk, rfl, rfl, M⟩ := hrel
            by_cases hlt : k < np
            · obtain ⟨Ar, nr, cr, rfl⟩ := M.ro.rl.val
              have x0 := M.x.cell 3
              have hXl : X < wr.heap.size := M.x.lt
              have hE : OwnI (wr.alloc (.cells #[] 3)) wr.heap.size (.slice (some ⟨wr.heap.size, 0, none⟩) 0 0) [] := OwnI.empty wr (Nat.le_refl _)
              have hgE := World.grownBy_alloc wr (.cells #[] 3) none
              have ME := M.new hgE
              have hlen : (List.replicate k ([] : List Int)).length ≤ 1000000000 := by rw [List.length_replicate]; omega
              go_wp2_with (at_builtin; go_must (refine wp_push_list_n (.tmp 42) (.tmp 44) rfl rfl ME.ro hE.ri hlen ME.hbx rfl rfl (by simp) ?_))
              intro v5 w5 hown5 hg5
              obtain ⟨z1, z2, M5⟩ := ME.pushR Hlt.out hg5 hown5
              obtain ⟨A5, n5, c5, rfl⟩ := hown5.rl.val
              clear hown5 hg5 ME hE hgE x0
              go_wp2_with fail
              go_roundg (np + 1 - (k + 1))
              case measure => omega
              case rel => exact ⟨k + 1, _, by omega, rfl, by go_num, M5⟩
            · obtain rfl : np = k := by omega
              obtain ⟨gd, capd, rfl, hcd, hbd⟩ := M.dq.form (n := n) (by rw [List.length_replicate]) (by omega)
              obtain ⟨Ar, nr, cr, rfl⟩ := M.ro.rl.val
              have x1 := M.x.cell 1
              obtain ⟨w5, rfl⟩ : ∃ w5 : World, w5 = wr := ⟨_, rfl⟩
              have hcl : (countsOf plan).length ≤ 1000000 := by unfold countsOf; rw [List.length_map, List.length_range]; have := Hnp.out; omega
              go_wp2_with fail
              refine (specCountsReady_any _ (countsOf plan) w5 M.kt.ri hcl).mono ?_
              rintro e w6 ⟨rv, rfl, hrv, hg6⟩
              rw [zeroes_ready Hv.out] at hrv
              have M6 := M.new hg6
              have hr6 := hrv.ri
              obtain ⟨Av, nv, cv, rfl⟩ := hr6.val
              have hnv := hr6.len
              have Hnv := Lib.hid hnv
              have hnv10 : nv ≤ 10 := by rw [hnv]; have := readyOf_len plan []; have := Hnp.out; omega
              have hrb : Hid (∀ g, (Value.slice Av nv cv).ownBlock = some g → w5.heap.size ≤ g) := fun g hg => (hrv.lt g hg).1
              have MD : NewMid w w6 X s0 b2 (.slice (some ⟨gd, 0, none⟩) n capd) (.slice Ak nk ck) (.slice (some ⟨s0, 0, none⟩) 0 0) (.slice Ar nr cr) (countsOf plan) (dealt plan n 0) np xs := by
                have e : dealt plan n 0 = List.replicate n [] := by unfold dealt; simp
                rw [e]
                exact M6
              have hxb : Hid (∀ u ∈ xs, ∀ g, u.ownBlock = some g → g < w5.heap.size) := fun u hu g hg => (M.dq.lts u hu g hg).2
              clear x1 M M6 hg6 hnv hr6
              have hrv0 : ∀ u ∈ xs, ∀ g, u.ownBlock = some g → (Value.slice Av nv cv).ownBlock ≠ some g := fun u hu g hg e => by
                have h1 := hxb.out u hu g hg
                have h2 := hrb.out g e
                omega
              generalize w5.heap.size = s1 at hrv hrb hxb
              clear hrb hxb
              have hn0 : ¬ ((n : Int) = 0) := by omega
              have hn0' : ¬ (n = 0) := by omega
              go_wp2_with fail
              go_loopg [10] (nv + 1) (fun mm i wr => ∃ (k : Nat) (xs : List Value), k ≤ nv ∧ mm = nv + 1 - k ∧ i = .int .i64 k ∧ NewMid w wr X s0 b2 (.slice (some ⟨gd, 0, none⟩) n capd) (.slice Ak nk ck) (.slice (some ⟨s0, 0, none⟩) 0 0) (.slice Ar nr cr) (countsOf plan) (dealt plan n k) np xs ∧ OwnI wr s1 (.slice Av nv cv) (readyOf plan []) ∧ Hid (∀ u ∈ xs, ∀ g, u.ownBlock = some g → (Value.slice Av nv cv).ownBlock ≠ some g))
              case atStart => exact ⟨0, _, Nat.zero_le _, rfl, rfl, MD, hrv, hrv0⟩
              case round =>
                clear MD hrv hrv0
                obtain ⟨k, xs, hk, rfl, rfl, M, hrv, hap⟩ := hrel
                by_cases hlt : k < nv
                · obtain ⟨g, o, x, rfl, hx, c0⟩ := hrv.ri.at_ hlt
                  obtain ⟨j, hj⟩ : ∃ j, j = k % n := ⟨_, rfl⟩
                  have hjn : j < n := by rw [hj]; exact Nat.mod_lt _ (by omega)
                  have hmod : (k : Int).tmod (n : Int) = (j : Int) := by rw [hj]; rfl
                  have hkr : k ≤ (readyOf plan []).length := by rw [← Hnv.out]; exact hk
                  have hdl := dealt_len (plan := plan) (n := n) (k := k) (by omega) hkr
                  have hjD : j < (dealt plan n k).length := by rw [hdl]; exact hjn
                  obtain ⟨l0, u, hl0, hu, cu, hou⟩ := M.dq.at_ hjD
                  have hl10 : l0.length ≤ 10 := dealt_row (by omega) hkr (by omega) l0 (List.mem_of_getElem? hl0)
                  have Hs : Hid (dealt plan n (k + 1) = (dealt plan n k).set j (l0 ++ [x])) := by
                    show _ = _
                    rw [dealt_succ hx, ← hj, List.getD_eq_getElem?_getD, hl0]
                    rfl
                  obtain ⟨Ae, ne, ce, rfl⟩ := hou.ri.val
                  have x0 := M.x.cell 0
                  have hji : (j : Int) < (n : Int) := by omega
                  have hki : (k : Int) < (nv : Int) := by omega
                  have hXl : X < wr.heap.size := M.x.lt
                  have hgl : g < wr.heap.size := by simpa using cell_lt c0
                  have hgdl : gd < wr.heap.size := (M.dq.lt gd rfl).2
                  have hDr : wr.grownBy wr.drew none := gb_drew (gb_refl _ none)
                  have houD := hou.new hDr
                  have MDr := M.new hDr
                  have hbs : s0 ≤ wr.heap.size := Nat.le_trans M.hb.1 M.hbx
                  have hum := List.mem_of_getElem? hu
                  have Hj := Lib.hid hj
                  clear hx hj hl0 hdl
                  go_wp2_with fail
                  go_region_law (refine step_push_int_fd (w := wr) (u := x) (base := s0) (v := .slice Ae ne ce) (l := l0) (.tmp 67) (.tmp 72) rfl rfl houD (by omega) hbs rfl rfl rfl ?_; intro v' w4 hown4 hg4 hb4; have hEu : NotE wr.drew 27 (Value.ownBlock (.slice Ae ne ce)) := houD.notE (by decide); have x04 := (MDr.x.past hg4 hEu).cell 0; obtain ⟨⟨u0, cR, fR⟩, M5⟩ := MDr.deal hjD hu houD hg4 hown4 hb4; obtain ⟨A4, n4', c4, rfl⟩ := hown4.ri.val)
                  all_goals
                    have hst : w4.grownBy (w4.setCell ⟨gd, j, none⟩ (.slice A4 n4' c4)) (some gd) := gb_set (p := ⟨gd, j, none⟩) (gb_refl w4 (some gd)) (.inr rfl) _
                    have hI4 : NotE w4 3 (some gd) := (own_grown MDr.dq.1 hg4 (houD.notE (by decide))) |> fun h => NotE.own h (by decide)
                    rw [← Hs.out] at M5
                    have hrv5 := ((hrv.new hDr).apart2 hg4 (fun b hb e => hap.out _ hum b e hb)).grown hst hI4
                    have hap5 : Hid (∀ y ∈ xs.set j (.slice A4 n4' c4), ∀ b, y.ownBlock = some b → (Value.slice (some ⟨g, o, none⟩) nv cv).ownBlock ≠ some b) := by
                      show ∀ y ∈ _, _
                      intro y hy b hyb e
                      rcases List.mem_or_eq_of_mem_set hy with hy | rfl
                      · exact hap.out y hy b hyb e
                      · rcases hb4 with e2 | ⟨b2, e2, hge⟩
                        · exact hap.out _ hum b (e2 ▸ hyb) e
                        · rw [e2] at hyb
                          injection hyb with hyb
                          have h1 := (hrv.lt b e).2
                          have h2 : wr.drew.heap.size = wr.heap.size := rfl
                          omega
                    clear M MDr hrv hap hou houD hown4 hg4 hb4 hEu x04 hst hI4 x0 cu c0
                    go_wp2_with fail
                    go_roundg (nv + 1 - (k + 1))
                    case measure => omega
                    case rel => exact ⟨k + 1, _, by omega, rfl, by go_num, M5, hrv5, hap5⟩
                · obtain rfl : nv = k := by omega
                  have hcv : CV wr (.agg #[.slice (some ⟨gd, 0, none⟩) n capd, .slice Ak nk ck, .slice (some ⟨s0, 0, none⟩) 0 0, .slice Ar nr cr]) { deques := dealt plan n (readyOf plan []).length, counts := countsOf plan, done := [], rows := List.replicate plan.length [] } := by
                    refine ⟨_, _, _, _, rfl, ?_, M.kt.ri, M.od wr, ?_⟩
                    · rw [← Hnv.out]; exact M.dq.rl
                    · rw [← Hnp.out]; exact M.ro.rl
                  have x0 := M.x.cell 0
                  have x1 := M.x.cell 1
                  have x2 := M.x.cell 2
                  have x3 := M.x.cell 3
                  have y0 := M.res.cell 0
                  have y1 := M.res.cell 1
                  have y2 := M.res.cell 2
                  have y3 := M.res.cell 3
                  have f0 := M.res.frozen 0
                  have f1 := M.res.frozen 1
                  have f2 := M.res.frozen 2
                  have f3 := M.res.frozen 3
                  have hfin := Lib.hid (newGive M.g M.res hcv)
                  clear M hcv hrv hap
                  go_wp2_with fail
                  refine bodyPost_ret (v := .tuple #[.agg #[.slice (some ⟨gd, 0, none⟩) n capd, .slice Ak nk ck, .slice (some ⟨s0, 0, none⟩) 0 0, .slice Ar nr cr], .bool true]) (by simp [results, Tryz.results121, go_sem, y0, y1, y2, y3]) rfl ?_
                  rw [Hr.out]
                  exact hfin.out
    · have Hin : Hid ((decide (1 ≤ n) && decide (n ≤ 4)) = false) := by
        show _ = _
        rw [Bool.and_eq_false_iff, decide_eq_false_iff_not, decide_eq_false_iff_not]
        omega
      have Hr : Hid (crewNew plan n = none) := crewNew_out hin
      clear hv hin
      go_enter Tryz.func121, Tryz.ntmps121
      go_upto_region 1 with fail
      generalize w.alloc (.cells #[.slice none 0 0, .slice none 0 0, .slice none 0 0, .slice none 0 0] 27) = W at hR0 hgR ⊢
      go_wp2_with fail
      refine (specPlanValid_b _ plan W (hp.new hgR) hpl Hv.out).mono ?_
      rintro e w1 ⟨rfl, hg1⟩
      have g1 := gb_trans hgR hg1
      have hR1 := hR0.grown hg1 (by simp)
      have y0 := hR1.cell 0
      have y1 := hR1.cell 1
      have y2 := hR1.cell 2
      have y3 := hR1.cell 3
      have f0 := hR1.frozen 0
      have f1 := hR1.frozen 1
      have f2 := hR1.frozen 2
      have f3 := hR1.frozen 3
      have hfin := Lib.hid (newFail g1)
      clear hgR hR0 hg1 hR1 g1
      go_wp2_with fail
      refine (l6In_b _ _ _ _ Hin.out).mono ?_
      rintro e w2 ⟨rfl, rfl⟩
      go_wp2_with fail
      refine bodyPost_ret (v := .tuple #[.agg #[.slice none 0 0, .slice none 0 0, .slice none 0 0, .slice none 0 0], .bool false]) (by simp [results, Tryz.results121, go_sem, y0, y1, y2, y3]) rfl ?_
      rw [Hr.out]
      exact hfin.out
  · have hv' : planValid plan = false := by simpa using hv
    have Hv := Lib.hid hv'
    have Hr : Hid (crewNew plan n = none) := crewNew_bad hv'
    clear hv hv'
    go_enter Tryz.func121, Tryz.ntmps121
    go_upto_region 1 with fail
    generalize w.alloc (.cells #[.slice none 0 0, .slice none 0 0, .slice none 0 0, .slice none 0 0] 27) = W at hR0 hgR ⊢
    go_wp2_with fail
    refine (specPlanValid_b _ plan W (hp.new hgR) hpl Hv.out).mono ?_
    rintro e w1 ⟨rfl, hg1⟩
    have g1 := gb_trans hgR hg1
    have hR1 := hR0.grown hg1 (by simp)
    have y0 := hR1.cell 0
    have y1 := hR1.cell 1
    have y2 := hR1.cell 2
    have y3 := hR1.cell 3
    have f0 := hR1.frozen 0
    have f1 := hR1.frozen 1
    have f2 := hR1.frozen 2
    have f3 := hR1.frozen 3
    have hfin := Lib.hid (newFail g1)
    clear hgR hR0 hg1 hR1 g1
    go_wp2_with fail
    refine bodyPost_ret (v := .tuple #[.agg #[.slice none 0 0, .slice none 0 0, .slice none 0 0, .slice none 0 0], .bool false]) (by simp [results, Tryz.results121, go_sem, y0, y1, y2, y3]) rfl ?_
    rw [Hr.out]
    exact hfin.out
end Go.Proofs.YtihobnheficpjaaGreatDoor
