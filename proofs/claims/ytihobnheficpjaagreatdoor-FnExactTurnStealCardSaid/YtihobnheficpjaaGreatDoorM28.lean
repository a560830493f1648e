/- Walks: the laws' copies of entries: sizes, copies, comparisons; entries all of whose parts are the call's own. · Walks: impl.copyLists, impl.copyEntry. · Walks: spec.TurnRun. -/
import Derived.Test.YtihobnheficpjaaGreatDoorM07
import Derived.Test.YtihobnheficpjaaGreatDoorM18
import Derived.Test.YtihobnheficpjaaGreatDoorM21
namespace Go.Proofs.YtihobnheficpjaaGreatDoor
open Go.RowKit


end Go.Proofs.YtihobnheficpjaaGreatDoor
namespace Go.Proofs.YtihobnheficpjaaGreatDoor
open Go.RowKit

def ListsOutO (w : World) (ll : List (List Int)) (e : Ending) (w' : World) : Prop := ∃ v', e = .returned v' ∧ OwnLO w' w.heap.size v' ll ∧ w.grownBy w' none
set_option maxHeartbeats 800000 in
theorem copyLists_any (v : Value) (ll : List (List Int)) (w : World) (h : RL w v ll) (hl : ll.length ≤ 1000) (hll : ∀ l ∈ ll, l.length ≤ 1000) : Calls Tryz.prog 116 #[v] w (ListsOutO w ll) := by
  obtain ⟨A, n, c, rfl, hc, hn, hnx⟩ := h.form'
  have hn1k : n ≤ 1000 := by omega
  have Hn := Lib.hid hn
  have Hll := Lib.hid hll
  clear hn hll
  obtain ⟨i0, hi, hz0, hz1, hz2⟩ := info_parts info25
  go_enter Tryz.func116, Tryz.ntmps116
  go_wp2_with (at_make; go_must (refine wpList_make_full _ rfl _ _ 24 rfl w.heap.size 25 i0 _ 1 Tryz.underlying24 hi hz0 hz1 _ _ _ _ n rfl rfl rfl rfl (by rw [hz2]; omega) (by unfold maxLen; omega) (Nat.le_refl _) ?_))
  intro w0 hown0 hg0
  have hO0 : OwnLO w0 w.heap.size (.slice (some ⟨w.heap.size, 0, none⟩) n n) (List.replicate n []) := by
    refine OwnLO.made ?_
    have e : n * 1 = n := Nat.mul_one n
    first | exact hown0 | (rw [e] at hown0; exact hown0) | (simp at hown0; exact hown0)
  clear hown0
  go_wp2_with fail
  go_loopg [11] (n + 1) (fun mm i wr => ∃ k : Nat, k ≤ n ∧ mm = n + 1 - k ∧ i = .int .i64 k ∧ Hid (OwnLO wr w.heap.size (.slice (some ⟨w.heap.size, 0, none⟩) n n) (ll.take k ++ List.replicate (n - k) [])) ∧ w.grownBy wr none)
  case atStart => exact ⟨0, Nat.zero_le _, rfl, rfl, hO0, hg0⟩
  case round =>
    clear hO0 hg0
    obtain ⟨k, hk, rfl, rfl, HO, hg⟩ := hrel
    by_cases hlt : k < n
    · obtain ⟨g, o, l, B, m, e, rfl, hx, c0, hrl, -, -, -⟩ := (h.new hg).at_ hlt
      have hl2 : l.length ≤ 1000000000 := by have := Hll.out l (List.mem_of_getElem? hx); omega
      have hset : Hid ((ll.take k ++ List.replicate (n - k) ([] : List Int)).set k l = ll.take (k + 1) ++ List.replicate (n - (k + 1)) []) := by
        show _ = _
        obtain ⟨hk', hx'⟩ := List.getElem?_eq_some_iff.1 hx
        have hsl : (ll.take k).length = k := by rw [List.length_take]; omega
        rw [List.set_append_right _ _ (by omega), hsl, Nat.sub_self, show n - k = n - (k + 1) + 1 by omega, List.replicate_succ, List.set_cons_zero, List.take_succ_eq_append_getElem hk', hx', List.append_assoc]
        rfl
      have Hlen : Hid (k < (ll.take k ++ List.replicate (n - k) ([] : List Int)).length) := by
        show _ < _
        rw [List.length_append, List.length_replicate, List.length_take, ← Hn.out]
        omega
      clear hx
      go_wp2_with fail
      refine (copyInts_any _ l _ hrl hl2).mono ?_
      rintro e' w4 ⟨u, rfl, ho, hg4⟩
      have hO4 := HO.out.new hg4
      obtain ⟨u0, c4, f4⟩ := hO4.cell Hlen.out
      have hO5 := HO.out.set_ hg4 hg.size Hlen.out ho
      rw [hset.out] at hO5
      have HO5 := Lib.hid hO5
      have hg5 : w.grownBy (w4.setCell ⟨w.heap.size, k, none⟩ u) none := gb_set (p := ⟨w.heap.size, k, none⟩) (gb_trans hg hg4) (.inl (Nat.le_refl _)) _
      obtain ⟨A', n', c', rfl⟩ := ho.ri.val
      clear hO4 hO5 HO ho
      go_wp2_with fail
      go_roundg (n + 1 - (k + 1))
      case measure => omega
      case rel => exact ⟨k + 1, by omega, rfl, by go_num, HO5, hg5⟩
    · obtain rfl : k = n := by omega
      have hO2 : OwnLO wr w.heap.size (.slice (some ⟨w.heap.size, 0, none⟩) k k) ll := by
        have := HO.out
        rw [Nat.sub_self, List.replicate_zero, List.append_nil, List.take_of_length_le (by rw [← Hn.out]; exact Nat.le_refl _)] at this
        exact this
      clear HO
      go_wp2_with fail
      go_ret
      exact ⟨_, rfl, hO2, hg⟩
end Go.Proofs.YtihobnheficpjaaGreatDoor
namespace Go.Proofs.YtihobnheficpjaaGreatDoor
open Go.RowKit

theorem row_len {plan : List Node} {c : Crew} (h : CrewOk plan c) : ∀ l ∈ c.rows, l.length ≤ 1000 := by
  intro l hl
  obtain ⟨i, hi, rfl⟩ := List.getElem_of_mem hl
  have hp : i < plan.length := by rw [← h.rl]; exact hi
  have := h.rows i hp
  rw [List.getElem?_eq_getElem hi] at this
  injection this with this
  rw [this]
  unfold rowWant
  split
  · have := rowValid_len (valAt_valid h.pv hp).1
    omega
  · simp
theorem deque_len {plan : List Node} {c : Crew} (h : CrewOk plan c) : ∀ l ∈ c.deques, l.length ≤ 10 := by
  intro l hl
  obtain ⟨i, hi, rfl⟩ := List.getElem_of_mem hl
  exact (dequeValid_iff.1 (h.deque (List.getElem?_eq_getElem hi))).1
/-- What doing a node asks, where the crew is valid and one deque has been shortened. -/
theorem doPre_of {plan : List Node} {c : Crew} (h : CrewOk plan c) {k m j : Nat} {r : List Int} (hk : k < c.deques.length) (hm : m < plan.length) (hr : r.length ≤ 10) : DoPre plan { c with deques := c.deques.set j r } k m := by
  have hp := planValid_len h.pv
  refine ⟨h.pv, by show k < (c.deques.set j r).length; rw [List.length_set]; exact hk, hm, by show c.counts.length = _; rw [h.counts, lefts_len], ?_, h.rl, by show (c.deques.set j r).length ≤ 4; rw [List.length_set]; exact h.d4, ?_, (show ∀ l ∈ c.rows, l.length ≤ 1000 from row_len h), ?_⟩
  · show ∀ y ∈ c.counts, _
    rw [h.counts]
    exact lefts_in h.pv _
  · show ∀ l ∈ c.deques.set j r, _
    intro l hl
    rcases List.mem_or_eq_of_mem_set hl with hl | rfl
    · have := deque_len h l hl
      omega
    · omega
  · have := done_le h
    show c.done.length ≤ 1000
    omega
theorem specDo_eq {plan : List Node} {c : Crew} (h : CrewOk plan c) {L : List (List Int)} {k m : Nat} {nd : Node} (hx : plan[m]? = some nd) (hr : (m : Int) ∈ readyOf plan c.done) : specDo plan { c with deques := L } k m nd = doNode plan { c with deques := L } k (m : Int) := by
  unfold specDo doNode
  rw [show ({ c with deques := L } : Crew).rows = c.rows from rfl, step_ready h hx hr]
  rfl
theorem BoxO.setDeq {w : World} {base X gd n cap k : Nat} {kv o r f : Value} {D Rw : List (List Int)} {N C l : List Int} {xs ys : List Value} (h : BoxO w base X (.slice (some ⟨gd, 0, none⟩) n cap) kv o r D N Rw xs ys) (hk : k < D.length) (hf : OwnI w base f l) (hC : RI w kv C) :
    (∃ u, w.cell? ⟨gd, k, none⟩ = some u ∧ w.frozen? ⟨gd, k, none⟩ = false) ∧ w.grownBy (w.setCell ⟨gd, k, none⟩ f) (some gd) ∧ NotE w 27 (some gd) ∧ base ≤ gd ∧
    Blk (w.setCell ⟨gd, k, none⟩ f) X 27 #[.slice (some ⟨gd, 0, none⟩) n cap, kv, o, r] ∧ CV (w.setCell ⟨gd, k, none⟩ f) (.agg #[.slice (some ⟨gd, 0, none⟩) n cap, kv, o, r]) ⟨D.set k l, C, N, Rw⟩ := by
  have hst : w.grownBy (w.setCell ⟨gd, k, none⟩ f) (some gd) := gb_set (p := ⟨gd, k, none⟩) (gb_refl w (some gd)) (.inr rfl) _
  have hI : NotE w 3 (some gd) := h.dq.notE (by decide)
  have hE : NotE w 27 (some gd) := h.dq.notE (by decide)
  exact ⟨h.dq.cell hk, hst, hE, (h.dq.lt gd rfl).1, h.x.past hst hE, _, _, _, _, rfl, (h.dq.set_ hk hf).rl, hC.grown hst hI, (h.dn.grown hst hI).ri, (h.ro.far hst hI (h.dr gd rfl)).rl⟩
theorem pop_mem {d l : List Int} {x : Int} (h : dequePop d = some (l, x)) : x ∈ d ∧ l.length ≤ d.length := by
  unfold dequePop at h
  split at h
  · cases hg : d.getLast? with
    | none => rw [hg] at h; cases h
    | some y =>
      rw [hg] at h
      simp only [Option.map_some, Option.some.injEq, Prod.mk.injEq] at h
      obtain ⟨rfl, rfl⟩ := h
      exact ⟨List.mem_of_getLast? hg, by simp⟩
  · cases h
theorem steal_mem {d l : List Int} {x : Int} (h : dequeSteal d = some (l, x)) : x ∈ d ∧ l.length ≤ d.length := by
  unfold dequeSteal at h
  split at h
  · cases d with
    | nil => simp at h
    | cons y r =>
      simp only [List.head?_cons, Option.map_some, List.drop_succ_cons, List.drop_zero, Option.some.injEq, Prod.mk.injEq] at h
      obtain ⟨rfl, rfl⟩ := h
      exact ⟨by simp, by simp⟩
  · cases h
/-- The node that a turn takes. -/
theorem taken_node {plan : List Node} {c : Crew} (H : CrewOk plan c) {k : Nat} {d : List Int} {x : Int} (hd : c.deques[k]? = some d) (hx : x ∈ d) : ∃ (m : Nat) (nd : Node), x = m ∧ plan[m]? = some nd ∧ (m : Int) ∈ readyOf plan c.done ∧ m < plan.length := by
  have hxr : x ∈ readyOf plan c.done := (H.dq.mem_iff).1 (List.mem_flatten.2 ⟨d, List.mem_of_getElem? hd, hx⟩)
  obtain ⟨m, hm, rfl, _⟩ := (mem_readyOf H.pv).1 hxr
  exact ⟨m, plan[m], rfl, List.getElem?_eq_getElem hm, hxr, hm⟩
/-- What a turn answers. -/
def TurnOut (w : World) (r : Option Crew) (e : Ending) (w' : World) : Prop := match r with
  | some c => ∃ v, e = .returned (.tuple #[v, .bool true]) ∧ CV w' v c ∧ w.grownBy w' none
  | none => ∃ v, e = .returned (.tuple #[v, .bool false]) ∧ CV w' v crew0 ∧ w.grownBy w' none
theorem turnFail {w wx : World} (hg : w.grownBy wx none) : TurnOut w none (.returned (.tuple #[.agg #[.slice none 0 0, .slice none 0 0, .slice none 0 0, .slice none 0 0], .bool false])) ((((wx.setCell ⟨w.heap.size + 1, 0, none⟩ (.slice none 0 0)).setCell ⟨w.heap.size + 1, 1, none⟩ (.slice none 0 0)).setCell ⟨w.heap.size + 1, 2, none⟩ (.slice none 0 0)).setCell ⟨w.heap.size + 1, 3, none⟩ (.slice none 0 0)) :=
  ⟨_, rfl, CV.zero _, gb_new hg (gb_set4 wx (w.heap.size + 1) (.slice none 0 0) (.slice none 0 0) (.slice none 0 0) (.slice none 0 0)) (fun g e => by cases e; exact .inl (Nat.le_succ _))⟩
theorem turnGive {w wx : World} {c : Crew} {d k o r : Value} (hg : w.grownBy wx none) (hR : Blk wx (w.heap.size + 1) 27 #[.slice none 0 0, .slice none 0 0, .slice none 0 0, .slice none 0 0]) (hc : CV wx (.agg #[d, k, o, r]) c) : TurnOut w (some c) (.returned (.tuple #[.agg #[d, k, o, r], .bool true])) ((((wx.setCell ⟨w.heap.size + 1, 0, none⟩ d).setCell ⟨w.heap.size + 1, 1, none⟩ k).setCell ⟨w.heap.size + 1, 2, none⟩ o).setCell ⟨w.heap.size + 1, 3, none⟩ r) :=
  have hst := gb_set4 wx (w.heap.size + 1) d k o r
  ⟨_, rfl, hc.grown hst (NotE.blk hR (by decide)) (NotE.blk hR (by decide)), gb_new hg hst (fun g e => by cases e; exact .inl (Nat.le_succ _))⟩
/-- The argument's box and the result's cell as a turn begins. -/
structure Begun (w W : World) (d k o r : Value) (c : Crew) : Prop where
  b : BoxC W w.heap.size d k o r c
  res : Blk W (w.heap.size + 1) 27 #[.slice none 0 0, .slice none 0 0, .slice none 0 0, .slice none 0 0]
  g : w.grownBy W none
theorem Begun.start {w : World} {d k o r : Value} {c : Crew} (h : CV w (.agg #[d, k, o, r]) c) : Begun w ((w.alloc (.cells #[d, k, o, r] 27)).alloc (.cells #[.slice none 0 0, .slice none 0 0, .slice none 0 0, .slice none 0 0] 27)) d k o r c := by
  have hR0 := Blk.new (w.alloc (.cells #[d, k, o, r] 27)) 27 #[.slice none 0 0, .slice none 0 0, .slice none 0 0, .slice none 0 0]
  rw [World.size_alloc] at hR0
  exact ⟨h.box.new (World.grownBy_alloc _ _ none), hR0, gb_alloc (gb_alloc (gb_refl w none) _) _⟩
theorem Begun.new {w W W' : World} {d k o r : Value} {c : Crew} (B : Begun w W d k o r c) (hg : W.grownBy W' none) : Begun w W' d k o r c := ⟨B.b.new hg, B.res.grown hg (by simp), gb_trans B.g hg⟩
theorem turnRun_bad {plan : List Node} {c : Crew} {w : Int} (h : crewValid plan c = false) : turnRun plan c w = none := by unfold turnRun; rw [h]; rfl
theorem turnRun_out {plan : List Node} {c : Crew} {w : Int} (h : isWorker c w = false) : turnRun plan c w = none := by unfold turnRun; rw [h, Bool.and_false]; rfl
theorem turnRun_eq {plan : List Node} {c : Crew} {k : Nat} (hv : crewValid plan c = true) (hk : k < c.deques.length) {d : List Int} (hd : c.deques[k]? = some d) : turnRun plan c (k : Int) = (dequePop d).map fun x => doNode plan { c with deques := c.deques.set k x.1 } k x.2 := by
  have H := crewValid_iff.1 hv
  have hw : isWorker c (k : Int) = true := isWorker_iff.2 ⟨Int.natCast_nonneg k, by omega⟩
  unfold turnRun dequePop
  rw [hv, hw, H.deque hd, Bool.and_true, if_pos rfl, if_pos rfl, Int.toNat_natCast, List.getD_eq_getElem?_getD, hd]
  simp only [Option.getD_some]
  cases d.getLast? <;> rfl
set_option maxHeartbeats 3200000 in
set_option maxRecDepth 20000 in
theorem specTurnRun_any (pv v : Value) (plan : List Node) (c : Crew) (wk : Int) (w : World) (hp : RN w pv plan) (h : CV w v c) (hpl : plan.length ≤ 1000000000) (hfit : c.deques.length ≤ 1048576 ∧ ∀ d ∈ c.deques, d.length ≤ 1048576) :
    Calls Tryz.prog 18 #[pv, v, .int .i64 wk] w (TurnOut w (turnRun plan c wk)) := by
  obtain ⟨A, n, cp, rfl, -, hn, -⟩ := hp.form'
  obtain ⟨A1, n1, c1, A2, n2, c2, A3, n3, c3, A4, n4, c4, rfl, h1, -, -, -⟩ := h.form
  have B0 := Begun.start h
  have hn1 := h1.len
  have hn1b : n1 ≤ 1048576 := by omega
  have Hn1 := Lib.hid hn1
  have Hfit := Lib.hid hfit.2
  clear hn hn1 h1 h hfit
  by_cases hv : crewValid plan c = true
  · have Hv := Lib.hid hv
    by_cases hin : 0 ≤ wk ∧ wk ≤ (n1 : Int) - 1
    · have Hin : Hid ((decide (0 ≤ wk) && decide (wk ≤ (n1 : Int) - 1)) = true) := by show _ = _; simp [hin.1, hin.2]
      obtain ⟨k, rfl⟩ := Int.eq_ofNat_of_zero_le hin.1
      have hk : k < n1 := by omega
      clear hv hin
      go_enter Tryz.func18, Tryz.ntmps18
      go_upto_region 1 with fail
      generalize ((w.alloc (.cells #[.slice A1 n1 c1, .slice A2 n2 c2, .slice A3 n3 c3, .slice A4 n4 c4] 27)).alloc (.cells #[.slice none 0 0, .slice none 0 0, .slice none 0 0, .slice none 0 0] 27)) = W at B0 ⊢
      have d0 := B0.b.d0
      have d1 := B0.b.d1
      have d2 := B0.b.d2
      have d3 := B0.b.d3
      go_wp2_with fail
      refine (specCrewValid_b _ _ plan c W (hp.new B0.g) B0.b.cv hpl Hfit.out Hv.out).mono ?_
      rintro e w1 ⟨rfl, hg1⟩
      have B1 := B0.new hg1
      clear B0 hg1 d0 d1 d2 d3
      have d0 := B1.b.d0
      have d1 := B1.b.d1
      have d2 := B1.b.d2
      have d3 := B1.b.d3
      have hkD : k < c.deques.length := by rw [← Hn1.out]; exact hk
      obtain ⟨g, o, d, Bd, md, ed, rfl, hd, q0, hrd, -, -, -⟩ := B1.b.dq.at_ hk
      have hki : (k : Int) < (n1 : Int) := by omega
      have Heq := Lib.hid (turnRun_eq Hv.out hkD hd)
      have Hd := Lib.hid hd
      clear hd
      go_wp2_with fail
      refine (l6In_b _ _ _ _ Hin.out).mono ?_
      rintro e w2 ⟨rfl, rfl⟩
      go_wp2_with fail
      refine (specDequePop_any _ d w1 hrd).mono ?_
      cases hpop : dequePop d with
      | none =>
        rintro e w2 ⟨u, y, rfl, hu, hg2⟩
        have B2 := B1.new hg2
        have Hr : Hid (turnRun plan c (k : Int) = none) := by show _ = _; rw [Heq.out, hpop]; rfl
        have y0 := B2.res.cell 0
        have y1 := B2.res.cell 1
        have y2 := B2.res.cell 2
        have y3 := B2.res.cell 3
        have f0 := B2.res.frozen 0
        have f1 := B2.res.frozen 1
        have f2 := B2.res.frozen 2
        have f3 := B2.res.frozen 3
        have hfin := Lib.hid (turnFail B2.g)
        clear hpop B1 B2 d0 d1 d2 d3 hg2 q0 hrd
        obtain ⟨Au, nu, cu, rfl⟩ := hu.val
        go_wp2_with fail
        refine bodyPost_ret (v := .tuple #[.agg #[.slice none 0 0, .slice none 0 0, .slice none 0 0, .slice none 0 0], .bool false]) (by simp [results, Tryz.results18, go_sem, y0, y1, y2, y3]) rfl ?_
        rw [Hr.out]
        exact hfin.out
      | some lx =>
        obtain ⟨l, x⟩ := lx
        rintro e w2 ⟨u, rfl, hu, hg2⟩
        have H := crewValid_iff.1 Hv.out
        obtain ⟨hxd, hll⟩ := pop_mem hpop
        have hl10 : l.length ≤ 10 := Nat.le_trans hll (deque_len H d (List.mem_of_getElem? Hd.out))
        obtain ⟨m, nd, rfl, hnd, hrdy, hmp⟩ := taken_node H Hd.out hxd
        have HH := Lib.hid H
        have Hr : Hid (turnRun plan c (k : Int) = some (specDo plan { c with deques := c.deques.set k l } k m nd)) := by show _ = _; rw [Heq.out, hpop, specDo_eq H hnd hrdy]; rfl
        have Hnd := Lib.hid hnd
        have hDo : Hid (DoPre plan { c with deques := c.deques.set k l } k m) := doPre_of H hkD hmp hl10
        have B2 := B1.new hg2
        have hs1 : w.heap.size ≤ w1.heap.size := B1.g.size
        have hu' := hu.lower hs1
        obtain ⟨Au, nu, cu, rfl⟩ := hu.ri.val
        clear hpop H hxd hll hl10 hnd hrdy hmp hu B1 hg2 d0 d1 d2 d3 q0 hrd
        have d0 := B2.b.d0
        have d1 := B2.b.d1
        have d2 := B2.b.d2
        have d3 := B2.b.d3
        go_wp2_with fail
        refine (l14Copy_any _ c w2 B2.b.cv (by have := HH.out.d4; omega) (fun l hl => by have := deque_len HH.out l hl; omega) (by have := HH.out.rl; have := planValid_len HH.out.pv; omega) (fun l hl => by have := row_len HH.out l hl; omega) (by have := HH.out.counts; rw [this, lefts_len]; have := planValid_len HH.out.pv; omega) (by have := done_le HH.out; have := planValid_len HH.out.pv; omega)).mono ?_
        rintro e w3 ⟨v3, rfl, ⟨dv, kv, ov, rv, xs, ys, rfl, q1, q2, q3, q4, q5, q6⟩, hg3⟩
        have B3 := B2.new hg3
        have hu3 := hu'.new hg3
        have hs2 : w.heap.size ≤ w2.heap.size := B2.g.size
        obtain ⟨gd, capd, rfl, hcd, hbd⟩ := q1.form Hn1.out.symm (by omega)
        obtain ⟨Ar, nr, cr, rfl⟩ := q4.rl.val
        obtain ⟨Ak, nk, ck, rfl⟩ := q2.val
        obtain ⟨Ao, no, co, rfl⟩ := q3.ri.val
        clear d0 d1 d2 d3 B2 hu' hg3
        go_upto_region 7 with fail
        have hO := BoxO.lay (k := .slice Ak nk ck) (q1.low hs2) (q3.lower hs2) (q4.low hs2) q5 q6
        have hgX := World.grownBy_alloc w3 (.cells #[.slice (some ⟨gd, 0, none⟩) n1 capd, .slice Ak nk ck, .slice Ao no co, .slice Ar nr cr] 27) none
        have q2' := q2.new hgX
        have hu4 := hu3.new hgX
        have B4 := B3.new hgX
        have hRX : w.heap.size + 1 < w3.heap.size := B3.res.lt
        generalize w3.alloc (.cells #[.slice (some ⟨gd, 0, none⟩) n1 capd, .slice Ak nk ck, .slice Ao no co, .slice Ar nr cr] 27) = w4 at hO hgX q2' hu4 B4 ⊢
        generalize w3.heap.size = X at hO hRX ⊢
        obtain ⟨⟨u0, cR, fR⟩, hst5, hE5, hbd5, hx5, hcv5⟩ := hO.setDeq hkD hu4 q2'
        have x0 := hO.x.cell 0
        have res5 := B4.res.past hst5 hE5
        have g5 := gb_new B4.g hst5 (fun g e => by cases e; exact .inl hbd5)
        clear q1 q2 q3 q4 q5 q6 hgX B3 hu3
        go_upto_region 8 with fail
        clear cR fR x0 hst5 hE5 q2' hu4 B4 hO
        generalize w4.setCell ⟨gd, k, none⟩ (.slice Au nu cu) = w5 at hx5 hcv5 res5 g5 ⊢
        have x0 := hx5.cell 0
        have x1 := hx5.cell 1
        have x2 := hx5.cell 2
        have x3 := hx5.cell 3
        go_wp2_with fail
        refine (l14Do_any _ _ plan { c with deques := c.deques.set k l } k m nd w5 (hp.new g5) hcv5 hDo.out Hnd.out).mono ?_
        rintro e w6 ⟨v6, rfl, hcv6, hg6⟩
        have res6 := res5.grown hg6 (by simp)
        have g6 := gb_trans g5 hg6
        obtain ⟨B1', m1', e1', B2', m2', e2', B3', m3', e3', B4', m4', e4', rfl, -, -, -, -⟩ := hcv6.form
        have hfin := Lib.hid (turnGive g6 res6 hcv6)
        have y0 := res6.cell 0
        have y1 := res6.cell 1
        have y2 := res6.cell 2
        have y3 := res6.cell 3
        have f0 := res6.frozen 0
        have f1 := res6.frozen 1
        have f2 := res6.frozen 2
        have f3 := res6.frozen 3
        clear x0 x1 x2 x3 hx5 hcv5 res5 g5 hg6 hcv6 res6 g6
        go_wp2_with fail
        refine bodyPost_ret (v := .tuple #[.agg #[.slice B1' m1' e1', .slice B2' m2' e2', .slice B3' m3' e3', .slice B4' m4' e4'], .bool true]) (by simp [results, Tryz.results18, go_sem, y0, y1, y2, y3]) rfl ?_
        rw [Hr.out]
        exact hfin.out
    · have Hin : Hid ((decide (0 ≤ wk) && decide (wk ≤ (n1 : Int) - 1)) = false) := by
        show _ = _
        rw [Bool.and_eq_false_iff, decide_eq_false_iff_not, decide_eq_false_iff_not]
        omega
      have Hr : Hid (turnRun plan c wk = none) := by
        show _ = _
        refine turnRun_out ?_
        unfold isWorker
        rw [← Hn1.out, Bool.and_eq_false_iff, decide_eq_false_iff_not, decide_eq_false_iff_not]
        omega
      clear hv hin
      go_enter Tryz.func18, Tryz.ntmps18
      go_upto_region 1 with fail
      generalize ((w.alloc (.cells #[.slice A1 n1 c1, .slice A2 n2 c2, .slice A3 n3 c3, .slice A4 n4 c4] 27)).alloc (.cells #[.slice none 0 0, .slice none 0 0, .slice none 0 0, .slice none 0 0] 27)) = W at B0 ⊢
      have d0 := B0.b.d0
      have d1 := B0.b.d1
      have d2 := B0.b.d2
      have d3 := B0.b.d3
      go_wp2_with fail
      refine (specCrewValid_b _ _ plan c W (hp.new B0.g) B0.b.cv hpl Hfit.out Hv.out).mono ?_
      rintro e w1 ⟨rfl, hg1⟩
      have B1 := B0.new hg1
      clear B0 hg1 d0 d1 d2 d3
      have d0 := B1.b.d0
      have y0 := B1.res.cell 0
      have y1 := B1.res.cell 1
      have y2 := B1.res.cell 2
      have y3 := B1.res.cell 3
      have f0 := B1.res.frozen 0
      have f1 := B1.res.frozen 1
      have f2 := B1.res.frozen 2
      have f3 := B1.res.frozen 3
      have hfin := Lib.hid (turnFail B1.g)
      clear B1
      go_wp2_with fail
      refine (l6In_b _ _ _ _ Hin.out).mono ?_
      rintro e w2 ⟨rfl, rfl⟩
      go_wp2_with fail
      refine bodyPost_ret (v := .tuple #[.agg #[.slice none 0 0, .slice none 0 0, .slice none 0 0, .slice none 0 0], .bool false]) (by simp [results, Tryz.results18, go_sem, y0, y1, y2, y3]) rfl ?_
      rw [Hr.out]
      exact hfin.out
  · have hv' : crewValid plan c = false := by simpa using hv
    have Hv := Lib.hid hv'
    have Hr : Hid (turnRun plan c wk = none) := turnRun_bad hv'
    clear hv hv'
    go_enter Tryz.func18, Tryz.ntmps18
    go_upto_region 1 with fail
    generalize ((w.alloc (.cells #[.slice A1 n1 c1, .slice A2 n2 c2, .slice A3 n3 c3, .slice A4 n4 c4] 27)).alloc (.cells #[.slice none 0 0, .slice none 0 0, .slice none 0 0, .slice none 0 0] 27)) = W at B0 ⊢
    have d0 := B0.b.d0
    have d1 := B0.b.d1
    have d2 := B0.b.d2
    have d3 := B0.b.d3
    go_wp2_with fail
    refine (specCrewValid_b _ _ plan c W (hp.new B0.g) B0.b.cv hpl Hfit.out Hv.out).mono ?_
    rintro e w1 ⟨rfl, hg1⟩
    have B1 := B0.new hg1
    clear B0 hg1 d0 d1 d2 d3
    have y0 := B1.res.cell 0
    have y1 := B1.res.cell 1
    have y2 := B1.res.cell 2
    have y3 := B1.res.cell 3
    have f0 := B1.res.frozen 0
    have f1 := B1.res.frozen 1
    have f2 := B1.res.frozen 2
    have f3 := B1.res.frozen 3
    have hfin := Lib.hid (turnFail B1.g)
    clear B1
    go_wp2_with fail
    refine bodyPost_ret (v := .tuple #[.agg #[.slice none 0 0, .slice none 0 0, .slice none 0 0, .slice none 0 0], .bool false]) (by simp [results, Tryz.results18, go_sem, y0, y1, y2, y3]) rfl ?_
    rw [Hr.out]
    exact hfin.out
end Go.Proofs.YtihobnheficpjaaGreatDoor
