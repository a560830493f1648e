/- Walks: spec.l92Crew, spec.l92Worker. · Walks: spec.l92Worker, the draws of the turns. · Walks: spec.DrawTurnSteal. -/
import Derived.Test.YtihobnheficpjaaGreatDoorM33
import Derived.Test.YtihobnheficpjaaGreatDoorM11
namespace Go.Proofs.YtihobnheficpjaaGreatDoor
open Go.RowKit

/-- A drawn crew: valid, or none. -/
def DrawnCrew (plan : List Node) (c : Crew) : Prop := CrewOk plan c ∨ c = crew0
/-- While the crew is drawn: the plan, the crew in block cb, the result's cell. -/
structure DrawMid (B0 rb : Nat) (w wx : World) (cb : Nat) (pv d k o r : Value) (plan : List Node) (c : Crew) (q : Int) : Prop where
  rd : Rdr B0 wx rb q
  pl : RN wx pv plan
  b : BoxC wx cb d k o r c
  ok : CrewOk plan c
  res : Blk wx w.heap.size 27 #[.slice none 0 0, .slice none 0 0, .slice none 0 0, .slice none 0 0]
  hc : w.heap.size < cb
  g : w.grownBy wx (some rb)
  hB : B0 ≤ w.heap.size
section
variable {B0 rb cb : Nat} {w wx wy : World} {pv d k o r : Value} {plan : List Node} {c : Crew} {q q' : Int}
theorem Rdr.ne {w : World} {p : Int} (h : Rdr B0 w rb p) {E : TypeId} (hE : E ≠ 106) : NotE w E (some rb) := by
  obtain ⟨bv, hb⟩ := h.blk
  exact NotE.blk hb hE
theorem DrawMid.read (M : DrawMid B0 rb w wx cb pv d k o r plan c q) (hg : wx.grownBy wy (some rb)) (hr : Rdr B0 wy rb q') : DrawMid B0 rb w wy cb pv d k o r plan c q' := by
  have hI := M.rd.ne (E := 3) (by decide)
  have hL := M.rd.ne (E := 25) (by decide)
  have hN := M.rd.ne (E := 94) (by decide)
  have hC := M.rd.ne (E := 27) (by decide)
  exact ⟨hr, M.pl.grown hg hI hN, M.b.grown hg (fun e => hC _ e.symm _ M.b.b) hI hL, M.ok, M.res.past hg hC, M.hc, gb_trans M.g hg, M.hB⟩
theorem DrawMid.new (M : DrawMid B0 rb w wx cb pv d k o r plan c q) (hg : wx.grownBy wy none) : DrawMid B0 rb w wy cb pv d k o r plan c q :=
  ⟨M.rd.kept hg (fun g e => by cases e), M.pl.new hg, M.b.new hg, M.ok, M.res.grown hg (by simp), M.hc, gb_none M.g hg, M.hB⟩
theorem DrawMid.take {d' k' o' r' : Value} {c' : Crew} (M : DrawMid B0 rb w wx cb pv d k o r plan c q) (hx : CV wx (.agg #[d', k', o', r']) c') (hok : CrewOk plan c') :
    DrawMid B0 rb w ((((wx.setCell ⟨cb, 0, none⟩ d').setCell ⟨cb, 1, none⟩ k').setCell ⟨cb, 2, none⟩ o').setCell ⟨cb, 3, none⟩ r') cb pv d' k' o' r' plan c' q := by
  have hst := gb_set4 wx cb d' k' o' r'
  have hI : NotE wx 3 (some cb) := NotE.blk M.b.b (by decide)
  have hL : NotE wx 25 (some cb) := NotE.blk M.b.b (by decide)
  have hN : NotE wx 94 (some cb) := NotE.blk M.b.b (by decide)
  have hc := M.hc
  obtain ⟨bv, hbv⟩ := M.rd.blk
  have hne : cb ≠ rb := M.b.b.ne_ hbv (by decide)
  exact ⟨M.rd.kept hst (fun g e => by cases e; exact ⟨by have := M.hB; omega, hne⟩), M.pl.grown hst hI hN, CV.box_in (hx.grown hst hI hL) (gb_refl _ none) ((((M.b.b.set_ 0 d').set_ 1 k').set_ 2 o').set_ 3 r'), hok, M.res.grown hst (fun e => by injection e with e; omega), M.hc, gb_new M.g hst (fun g e => by cases e; exact .inl (Nat.le_of_lt hc)), M.hB⟩
/-- Behind the round's call: the next crew in block X. -/
def NextMid (B0 rb : Nat) (w : World) (cb : Nat) (pv d k o r : Value) (plan : List Node) (c : Crew) (q : Int) (x9 f : Value) (wx : World) : Prop :=
  ∃ X xd xk xo xr x b, x9 = .pointer (some ⟨X, 0, none⟩) ∧ f = .bool b ∧ DrawMid B0 rb w wx cb pv d k o r plan c q ∧ BoxC wx X xd xk xo xr x ∧ (b = true → CrewOk plan x)
section
variable {B0 rb cb : Nat} {w wx wy : World} {pv d k o r : Value} {plan : List Node} {c : Crew} {q q' : Int}
theorem NextMid.set {X : Nat} {xd xk xo xr : Value} {x : Crew} {b : Bool} (M : DrawMid B0 rb w wx cb pv d k o r plan c q) (hX : Blk wx X 27 #[.slice none 0 0, .slice none 0 0, .slice none 0 0, .slice none 0 0]) (hc : cb < X) (hx : CV wx (.agg #[xd, xk, xo, xr]) x) (hb : b = true → CrewOk plan x) :
    NextMid B0 rb w cb pv d k o r plan c q (.pointer (some ⟨X, 0, none⟩)) (.bool b) ((((wx.setCell ⟨X, 0, none⟩ xd).setCell ⟨X, 1, none⟩ xk).setCell ⟨X, 2, none⟩ xo).setCell ⟨X, 3, none⟩ xr) := by
  have hst := gb_set4 wx X xd xk xo xr
  have hI : NotE wx 3 (some X) := NotE.blk hX (by decide)
  have hL : NotE wx 25 (some X) := NotE.blk hX (by decide)
  have hN : NotE wx 94 (some X) := NotE.blk hX (by decide)
  obtain ⟨bv, hbv⟩ := M.rd.blk
  have hne : X ≠ rb := hX.ne_ hbv (by decide)
  have hwc := M.hc
  have hBw := M.hB
  exact ⟨X, xd, xk, xo, xr, x, b, rfl, rfl, ⟨M.rd.kept hst (fun g e => by cases e; exact ⟨by omega, hne⟩), M.pl.grown hst hI hN, M.b.grown hst (fun e => by injection e with e; omega) hI hL, M.ok, M.res.grown hst (fun e => by injection e with e; omega), M.hc, gb_new M.g hst (fun g e => by cases e; exact .inl (by omega)), M.hB⟩,
    CV.box_in (hx.grown hst hI hL) (gb_refl _ none) ((((hX.set_ 0 xd).set_ 1 xk).set_ 2 xo).set_ 3 xr), hb⟩
theorem NextMid.make {xd xk xo xr : Value} {x : Crew} {b : Bool} (M : DrawMid B0 rb w wx cb pv d k o r plan c q) (hx : CV wx (.agg #[xd, xk, xo, xr]) x) (hb : b = true → CrewOk plan x) :
    NextMid B0 rb w cb pv d k o r plan c q (.pointer (some ⟨wx.heap.size, 0, none⟩)) (.bool b) (wx.alloc (.cells #[xd, xk, xo, xr] 27)) :=
  ⟨wx.heap.size, xd, xk, xo, xr, x, b, rfl, rfl, M.new (World.grownBy_alloc _ _ none), CV.box_in hx (World.grownBy_alloc _ _ none) (Blk.new _ _ _), hb⟩
end
theorem turnOut_ok {w w' : World} {plan : List Node} {c : Crew} {k : Int} {e : Ending} (h : TurnOut w (turnNext plan c k) e w') : ∃ xd nd cd xk nk ck xo no co xr nr cr x b, e = .returned (.tuple #[.agg #[.slice xd nd cd, .slice xk nk ck, .slice xo no co, .slice xr nr cr], .bool b]) ∧ CV w' (.agg #[.slice xd nd cd, .slice xk nk ck, .slice xo no co, .slice xr nr cr]) x ∧ (b = true → CrewOk plan x) ∧ w.grownBy w' none := by
  cases hn : turnNext plan c k with
  | none =>
    rw [hn] at h
    obtain ⟨v, rfl, hc, hg⟩ := h
    obtain ⟨A1, n1, c1, A2, n2, c2, A3, n3, c3, A4, n4, c4, rfl, -, -, -, -⟩ := hc.form
    exact ⟨_, _, _, _, _, _, _, _, _, _, _, _, _, _, rfl, hc, fun e => (by cases e), hg⟩
  | some x =>
    rw [hn] at h
    obtain ⟨v, rfl, hc, hg⟩ := h
    obtain ⟨A1, n1, c1, A2, n2, c2, A3, n3, c3, A4, n4, c4, rfl, -, -, -, -⟩ := hc.form
    exact ⟨_, _, _, _, _, _, _, _, _, _, _, _, _, _, rfl, hc, fun _ => (turnNext_some hn).2.1, hg⟩
/-- What is drawn: a plan and a crew, nothing that was there turned but the reader. -/
def CrewPost (B0 rb : Nat) (w : World) (p : Int) (e : Ending) (w' : World) : Prop :=
  ∃ pv v plan c, e = .returned (.tuple #[pv, v]) ∧ RN w' pv plan ∧ CV w' v c ∧ smallPlan plan ∧ DrawnCrew plan c ∧ ∃ p', p ≤ p' ∧ p' ≤ p + 3000 ∧ Rdr B0 w' rb p' ∧ w.grownBy w' (some rb)
theorem crewGive {p : Int} (hr : Rdr B0 wx rb q) (hp : RN wx pv plan) (hR : Blk wx w.heap.size 27 #[.slice none 0 0, .slice none 0 0, .slice none 0 0, .slice none 0 0]) (hg : w.grownBy wx (some rb)) (hB : B0 ≤ w.heap.size) (hc : CV wx (.agg #[d, k, o, r]) c) (hd : DrawnCrew plan c) (hs : smallPlan plan) (h0 : p ≤ q) (h1 : q ≤ p + 3000) :
    CrewPost B0 rb w p (.returned (.tuple #[pv, .agg #[d, k, o, r]])) ((((wx.setCell ⟨w.heap.size, 0, none⟩ d).setCell ⟨w.heap.size, 1, none⟩ k).setCell ⟨w.heap.size, 2, none⟩ o).setCell ⟨w.heap.size, 3, none⟩ r) := by
  have hst := gb_set4 wx w.heap.size d k o r
  have hI : NotE wx 3 (some w.heap.size) := NotE.blk hR (by decide)
  have hL : NotE wx 25 (some w.heap.size) := NotE.blk hR (by decide)
  have hN : NotE wx 94 (some w.heap.size) := NotE.blk hR (by decide)
  obtain ⟨bv, hbv⟩ := hr.blk
  have hne : w.heap.size ≠ rb := hR.ne_ hbv (by decide)
  exact ⟨_, _, plan, c, rfl, hp.grown hst hI hN, hc.grown hst hI hL, hs, hd, q, h0, h1, hr.kept hst (fun g e => by cases e; exact ⟨hB, hne⟩), gb_new hg hst (fun g e => by cases e; exact .inl (Nat.le_refl _))⟩
end
theorem CrewPost.drew {B0 rb : Nat} {w w' : World} {p : Int} {e : Ending} (h : CrewPost B0 rb w p e w') : CrewPost B0 rb w p e w'.drew := by
  obtain ⟨pv, v, plan, c, he, h1, h2, h3, h4, q, h5, h6, h7, h8⟩ := h
  have hg := gb_drew (gb_refl w' none)
  exact ⟨pv, v, plan, c, he, h1.new hg, h2.new hg, h3, h4, q, h5, h6, h7.new hg, gb_drew h8⟩
set_option maxHeartbeats 3200000 in
set_option maxRecDepth 20000 in
theorem l92Crew_any (B0 rb : Nat) (p : Int) (w : World) (h : Rdr B0 w rb p) (hp0 : 0 ≤ p) (hp : p ≤ 600000) :
    Calls Tryz.prog 91 #[.pointer (some ⟨rb, 0, none⟩)] w (CrewPost B0 rb w p) := by
  have hB : B0 ≤ w.heap.size := by obtain ⟨_, _, _, _, _, h4, _⟩ := h; exact h4
  have hR0 := Blk.new w 27 #[.slice none 0 0, .slice none 0 0, .slice none 0 0, .slice none 0 0]
  have hgR := World.grownBy_alloc w (.cells #[.slice none 0 0, .slice none 0 0, .slice none 0 0, .slice none 0 0] 27) none
  go_enter Tryz.func91, Tryz.ntmps91
  go_upto_region 1 with fail
  have hrd0 := h.new hgR
  generalize w.alloc (.cells #[.slice none 0 0, .slice none 0 0, .slice none 0 0, .slice none 0 0] 27) = W at hR0 hgR hrd0 ⊢
  go_wp2_with fail
  refine (l91Plan_any B0 rb p W hrd0 (by omega) (by omega)).mono ?_
  rintro e w1 ⟨pv, plan, rfl, hpl, hsm, q1, hq0, hq1, hrd1, hg1⟩
  obtain ⟨An, nn, cn, rfl, -, hnn, -⟩ := hpl.form'
  have Hnn := Lib.hid hnn
  have hn11 : nn ≤ 11 := by have := hsm.1; omega
  have Hsm := Lib.hid hsm
  have hR1 : Blk w1 w.heap.size 27 #[.slice none 0 0, .slice none 0 0, .slice none 0 0, .slice none 0 0] := hR0.past hg1 (hrd0.ne (by decide))
  have g1 : w.grownBy w1 (some rb) := gb_trans (gb_some hgR _) hg1
  clear hgR hR0 hrd0 hg1 hnn hsm
  go_wp2_with fail
  refine (pick_any B0 rb q1 _ _ hrd1 (by omega) (by omega)).mono ?_
  rintro e w2 ⟨r2, rfl, hr2, -, hrd2, hg2⟩
  have hr2' := hr2 (by omega)
  have hpl2 := hpl.grown hg2 (hrd1.ne (by decide)) (hrd1.ne (by decide))
  have hR2 := hR1.past hg2 (hrd1.ne (by decide))
  have g2 := gb_trans g1 hg2
  clear hr2 hpl hR1 g1 hrd1 hg2
  have hw2 : IntKind.i64.wrap (1 + r2) = 1 + r2 := IntWalk.i64_in _ (by omega)
  go_wp2_with fail
  refine (specCrewNew_any _ plan (1 + r2) _ hpl2 (by have := Hsm.out.1; omega)).mono ?_
  intro e w3 hT
  cases hcn : crewNew plan (1 + r2) with
  | none =>
    rw [hcn] at hT
    obtain ⟨v3, rfl, hc3, hg3⟩ := hT
    have hrd3 := hrd2.new hg3
    have hpl3 := hpl2.new hg3
    have hR3 := hR2.grown hg3 (by simp)
    have g3 := gb_none g2 hg3
    clear hrd2 hpl2 hR2 g2 hg3 hcn hw2
    obtain ⟨A1, n1, c1, A2, n2, c2, A3, n3, c3, A4, n4, c4, rfl, -, -, -, -⟩ := hc3.form
    go_upto_region 3 with fail
    have hrA := hrd3.new (World.grownBy_alloc w3 (.cells #[.slice A1 n1 c1, .slice A2 n2 c2, .slice A3 n3 c3, .slice A4 n4 c4] 27) none)
    have hpA := hpl3.new (World.grownBy_alloc w3 (.cells #[.slice A1 n1 c1, .slice A2 n2 c2, .slice A3 n3 c3, .slice A4 n4 c4] 27) none)
    have hRA := hR3.grown (World.grownBy_alloc w3 (.cells #[.slice A1 n1 c1, .slice A2 n2 c2, .slice A3 n3 c3, .slice A4 n4 c4] 27) none) (by simp)
    have gA := gb_none g3 (World.grownBy_alloc w3 (.cells #[.slice A1 n1 c1, .slice A2 n2 c2, .slice A3 n3 c3, .slice A4 n4 c4] 27) none)
    generalize w3.alloc (.cells #[.slice A1 n1 c1, .slice A2 n2 c2, .slice A3 n3 c3, .slice A4 n4 c4] 27) = wA at hrA hpA hRA gA ⊢
    clear hrd3 hpl3 hR3 g3 hc3
    have y0 := hRA.cell 0
    have y1 := hRA.cell 1
    have y2 := hRA.cell 2
    have y3 := hRA.cell 3
    have f0 := hRA.frozen 0
    have f1 := hRA.frozen 1
    have f2 := hRA.frozen 2
    have f3 := hRA.frozen 3
    have hfin := Lib.hid (crewGive hrA hpA hRA gA hB (CV.zero wA) (plan := plan) (.inr rfl) Hsm.out (show p ≤ q1 + 1 by omega) (by omega))
    clear hrA hpA hRA gA
    go_wp2_with fail
    refine bodyPost_ret (v := .tuple #[.slice An nn cn, .agg #[.slice none 0 0, .slice none 0 0, .slice none 0 0, .slice none 0 0]]) (by simp [results, Tryz.results91, go_sem, y0, y1, y2, y3]) rfl ?_
    exact hfin.out
  | some c =>
    rw [hcn] at hT
    obtain ⟨v3, rfl, hc3, hg3⟩ := hT
    have hok := (crewNew_some hcn).1
    have hrd3 := hrd2.new hg3
    have hpl3 := hpl2.new hg3
    have hR3 := hR2.grown hg3 (by simp)
    have g3 := gb_none g2 hg3
    clear hrd2 hpl2 hR2 g2 hg3 hcn hw2
    obtain ⟨A1, n1, c1, A2, n2, c2, A3, n3, c3, A4, n4, c4, rfl, -, -, -, -⟩ := hc3.form
    go_upto_region 3 with fail
    have hgA := World.grownBy_alloc w3 (.cells #[.slice A1 n1 c1, .slice A2 n2 c2, .slice A3 n3 c3, .slice A4 n4 c4] 27) none
    have hRlt := hR3.lt
    have M0 : DrawMid B0 rb w (w3.alloc (.cells #[.slice A1 n1 c1, .slice A2 n2 c2, .slice A3 n3 c3, .slice A4 n4 c4] 27)) w3.heap.size (.slice An nn cn) (.slice A1 n1 c1) (.slice A2 n2 c2) (.slice A3 n3 c3) (.slice A4 n4 c4) plan c (q1 + 1) :=
      ⟨hrd3.new hgA, hpl3.new hgA, CV.box_in hc3 hgA (Blk.new _ _ _), hok, hR3.grown hgA (by simp), hRlt, gb_none g3 hgA, hB⟩
    generalize w3.alloc (.cells #[.slice A1 n1 c1, .slice A2 n2 c2, .slice A3 n3 c3, .slice A4 n4 c4] 27) = wA at M0 ⊢
    generalize w3.heap.size = cb at M0 ⊢
    clear hrd3 hpl3 hR3 g3 hc3 hgA hRlt hok
    have hw1 : IntKind.i64.wrap ((nn : Int) + 1) = (nn : Int) + 1 := IntWalk.i64_in _ (by omega)
    have hrdA := M0.rd
    go_wp2_with fail
    refine (pick_any B0 rb (q1 + 1) _ _ hrdA (by omega) (by omega)).mono ?_
    rintro e w4 ⟨r4, rfl, hr4, -, hrd4, hg4⟩
    have hr4' := hr4 (by omega)
    have M1 := M0.read hg4 hrd4
    obtain ⟨n, rfl⟩ := Int.eq_ofNat_of_zero_le hr4'.1
    have hn : n ≤ 11 := by omega
    clear M0 hr4 hr4' hrd4 hg4 hrdA hw1
    go_wp2_with fail
    go_loopg [8] (n + 1) (fun mm i wr => ∃ (k : Nat) (d' k' o' r' : Value) (cc : Crew) (q : Int), k ≤ n ∧ mm = n + 1 - k ∧ i = .int .i64 k ∧ q1 ≤ q ∧ q ≤ q1 + 2 + k ∧ DrawMid B0 rb w wr cb (.slice An nn cn) d' k' o' r' plan cc q)
    case atStart => exact ⟨0, _, _, _, _, c, _, Nat.zero_le _, rfl, rfl, by omega, by omega, M1⟩
    case round =>
      clear M1
      obtain ⟨k, d', k', o', r', cc, q, hk, rfl, rfl, hqa, hqb, M⟩ := hrel
      obtain ⟨B1, m1, e1, B2, m2, e2, B3, m3, e3, B4, m4, e4, ee, hdq, -, -, -⟩ := M.b.cv.form
      injection ee with ee
      injection ee with ee
      injection ee with ea ee
      injection ee with eb ee
      injection ee with ec ee
      injection ee with ed ee
      subst ea eb ec ed
      have hm1 := hdq.len
      have hm4 := M.ok.d4
      have hm0 := M.ok.d1
      rw [← hm1] at hm4 hm0
      clear hdq
      have Hm1 := Lib.hid hm1
      clear hm1
      have z0 := M.b.d0
      have z1 := M.b.d1
      have z2 := M.b.d2
      have z3 := M.b.d3
      by_cases hlt : k < n
      · clear ee
        have hpl5 : plan.length ≤ 1000000000 := by have := Hsm.out.1; omega
        have hfit : cc.deques.length ≤ 1048576 ∧ ∀ d ∈ cc.deques, d.length ≤ 1048576 := ⟨by have := M.ok.d4; omega, fun d hd => by have := deque_len M.ok d hd; omega⟩
        have Hfit := Lib.hid hfit
        clear hfit
        go_upto_region 10 with fail
        go_cut [9, 10] (fun x9 f wx => NextMid B0 rb w cb (.slice An nn cn) (.slice B1 m1 e1) (.slice B2 m2 e2) (.slice B3 m3 e3) (.slice B4 m4 e4) plan cc (q + 1) x9 f wx)
        case first =>
          have hrd := M.rd
          have hrl := M.rd.lt
          have hcl := M.b.b.lt
          have hcr : cb ≠ rb := by
            obtain ⟨bv, hbv⟩ := M.rd.blk
            exact M.b.b.ne_ hbv (by decide)
          have n0 : wr.heap.size ≠ cb := World.new_ne wr _ z0
          go_region_held3 (fun w' => w'.cell? ⟨cb, 0, none⟩ = some (.slice B1 m1 e1) ∧ w'.cell? ⟨cb, 1, none⟩ = some (.slice B2 m2 e2) ∧ w'.cell? ⟨cb, 2, none⟩ = some (.slice B3 m3 e3) ∧ w'.cell? ⟨cb, 3, none⟩ = some (.slice B4 m4 e4)) (go_keep) (first
            | (go_at_call 48; refine (pick_any B0 rb q _ _ (by first | exact M.rd | exact (M.new (gb_drew (gb_refl _ none))).rd | exact (M.new (gb_drew (World.grownBy_alloc _ _ none))).rd | exact (M.new (World.grownBy_alloc _ _ none)).rd) (by omega) (by omega)).mono ?_; rintro e w5 ⟨r5, rfl, hr5, -, hrd5, hg5⟩; have hr5' := hr5 (by omega); have M5 : DrawMid B0 rb w w5 cb (.slice An nn cn) (.slice B1 m1 e1) (.slice B2 m2 e2) (.slice B3 m3 e3) (.slice B4 m4 e4) plan cc (q + 1) := (by first | exact M.read hg5 hrd5 | exact (M.new (gb_drew (gb_refl _ none))).read hg5 hrd5 | exact (M.new (gb_drew (World.grownBy_alloc _ _ none))).read hg5 hrd5 | exact (M.new (World.grownBy_alloc _ _ none)).read hg5 hrd5); have k0 := M5.b.d0; have k1 := M5.b.d1; have k2 := M5.b.d2; have k3 := M5.b.d3; have n5 : w5.heap.size ≠ cb := World.new_ne w5 _ k0; (first | (have hX5 : Blk w5 wr.heap.size 27 #[.slice none 0 0, .slice none 0 0, .slice none 0 0, .slice none 0 0] := (by first | exact (Blk.new wr _ _).grown hg5 (by intro e; injection e with e; omega) | exact (Blk.new wr _ _).drew.grown hg5 (by intro e; injection e with e; omega) | exact (Blk.new wr.drew _ _).grown hg5 (by intro e; injection e with e; exact absurd e (Nat.ne_of_gt hrl))); have y0 := hX5.cell 0; have y1 := hX5.cell 1; have y2 := hX5.cell 2; have y3 := hX5.cell 3; have f0 := hX5.frozen 0; have f1 := hX5.frozen 1; have f2 := hX5.frozen 2; have f3 := hX5.frozen 3) | skip))
            | (go_at_call 38; refine (specTurnNext_any _ _ plan cc r5 _ (by first | exact M5.pl | exact (M5.new (gb_drew (gb_refl _ none))).pl | exact (M5.new (gb_drew (World.grownBy_alloc _ _ none))).pl | exact (M5.new (World.grownBy_alloc _ _ none)).pl) (by first | exact M5.b.cv | exact (M5.new (gb_drew (gb_refl _ none))).b.cv | exact (M5.new (gb_drew (World.grownBy_alloc _ _ none))).b.cv | exact (M5.new (World.grownBy_alloc _ _ none)).b.cv) hpl5 Hfit.out).mono ?_; intro e w6 hT; obtain ⟨xd, nd, cd, xk, nk, ck, xo, no, co, xr, nr, cr, x, b, rfl, hx6, hb6, hg6⟩ := turnOut_ok hT; have M6 : DrawMid B0 rb w w6 cb (.slice An nn cn) (.slice B1 m1 e1) (.slice B2 m2 e2) (.slice B3 m3 e3) (.slice B4 m4 e4) plan cc (q + 1) := (by first | exact M5.new hg6 | exact (M5.new (gb_drew (gb_refl _ none))).new hg6 | exact (M5.new (gb_drew (World.grownBy_alloc _ _ none))).new hg6 | exact (M5.new (World.grownBy_alloc _ _ none)).new hg6); have k0 := M6.b.d0; have k1 := M6.b.d1; have k2 := M6.b.d2; have k3 := M6.b.d3; have n6 : w6.heap.size ≠ cb := World.new_ne w6 _ k0; (first | (have hX6 := hX5.grown hg6 (by simp); have y0 := hX6.cell 0; have y1 := hX6.cell 1; have y2 := hX6.cell 2; have y3 := hX6.cell 3; have f0 := hX6.frozen 0; have f1 := hX6.frozen 1; have f2 := hX6.frozen 2; have f3 := hX6.frozen 3) | (have hX6 : Blk w6 w5.heap.size 27 #[.slice none 0 0, .slice none 0 0, .slice none 0 0, .slice none 0 0] := (by first | exact (Blk.new w5 _ _).grown hg6 (by simp) | exact (Blk.new w5 _ _).drew.grown hg6 (by simp) | exact (Blk.new w5.drew _ _).grown hg6 (by simp)); have y0 := hX6.cell 0; have y1 := hX6.cell 1; have y2 := hX6.cell 2; have y3 := hX6.cell 3; have f0 := hX6.frozen 0; have f1 := hX6.frozen 1; have f2 := hX6.frozen 2; have f3 := hX6.frozen 3) | skip)))
          all_goals
            go_wp2_with fail
            go_meet
            first
              | exact NextMid.set M6 hX6 hcl hx6 hb6
              | exact NextMid.set M6 hX6 (Nat.lt_of_lt_of_le hcl hg5.size) hx6 hb6
              | exact NextMid.set M6 hX6 M5.b.b.lt hx6 hb6
              | exact NextMid.make M6 hx6 hb6
        case rest =>
          obtain ⟨X, xd, xk, xo, xr, x, b, rfl, rfl, M2, hX, hb⟩ := hcut
          clear M z0 z1 z2 z3 Hfit hm4 hm0 Hm1
          obtain ⟨C1, i1, l1, C2, i2, l2, C3, i3, l3, C4, i4, l4, ee, -, -, -, -⟩ := hX.cv.form
          injection ee with ee
          injection ee with ee
          injection ee with ea ee
          injection ee with eb ee
          injection ee with ec ee
          injection ee with ed ee
          subst ea eb ec ed
          clear ee
          have x0 := hX.d0
          have x1 := hX.d1
          have x2 := hX.d2
          have x3 := hX.d3
          have z0 := M2.b.d0
          have z1 := M2.b.d1
          have z2 := M2.b.d2
          have z3 := M2.b.d3
          have t0 := M2.b.b.frozen 0
          have t1 := M2.b.b.frozen 1
          have t2 := M2.b.b.frozen 2
          have t3 := M2.b.b.frozen 3
          cases b with
          | true =>
            have M3 := M2.take hX.cv (hb rfl)
            go_wp2_with fail
            go_roundg (n + 1 - (k + 1))
            case measure => omega
            case rel => exact ⟨k + 1, _, _, _, _, x, q + 1, by omega, rfl, by go_num, by omega, by omega, M3⟩
          | false =>
            go_wp2_with fail
            go_roundg (n + 1 - (k + 1))
            case measure => omega
            case rel => exact ⟨k + 1, _, _, _, _, cc, q + 1, by omega, rfl, by go_num, by omega, by omega, M2⟩
      · obtain rfl : n = k := by omega
        have y0 := M.res.cell 0
        have y1 := M.res.cell 1
        have y2 := M.res.cell 2
        have y3 := M.res.cell 3
        have f0 := M.res.frozen 0
        have f1 := M.res.frozen 1
        have f2 := M.res.frozen 2
        have f3 := M.res.frozen 3
        have hcbR : w.heap.size ≠ cb := by have := M.hc; omega
        have hfin := Lib.hid (crewGive M.rd M.pl M.res M.g hB M.b.cv (.inl M.ok) Hsm.out (show p ≤ q by omega) (by omega))
        clear M
        go_wp2_with fail
        go_region_held3 (fun w' => w'.cell? ⟨cb, 0, none⟩ = some (.slice B1 m1 e1) ∧ w'.cell? ⟨cb, 1, none⟩ = some (.slice B2 m2 e2) ∧ w'.cell? ⟨cb, 2, none⟩ = some (.slice B3 m3 e3) ∧ w'.cell? ⟨cb, 3, none⟩ = some (.slice B4 m4 e4)) (go_keep) (skip)
        go_wp2_with fail
        refine bodyPost_ret (v := .tuple #[.slice An nn cn, .agg #[.slice B1 m1 e1, .slice B2 m2 e2, .slice B3 m3 e3, .slice B4 m4 e4]]) (by simp [results, Tryz.results91, go_sem, y0, y1, y2, y3]) rfl ?_
        exact hfin.out.drew
end Go.Proofs.YtihobnheficpjaaGreatDoor
namespace Go.Proofs.YtihobnheficpjaaGreatDoor
open Go.RowKit

/-- The reader opened, its bytes below any bound. -/
theorem l6OpenB_any (B0 : Nat) (w : World) (v : Value) (n : Nat) (h : Bytes w B0 v n) (hB : B0 ≤ w.heap.size) (hn : n ≤ 1048576) :
    Calls Tryz.prog 46 #[v] w (fun e w' => ∃ rb : Nat, e = .returned (.pointer (some ⟨rb, 0, none⟩)) ∧ Rdr B0 w' rb 0 ∧ w.grownBy w' none ∧ w.heap.size ≤ rb) := by
  obtain ⟨A, c, rfl, hnc, hcells⟩ := h
  have key : ∀ k : Nat, k ≤ n → k ≤ 2000 → ∀ A' c', A' = A → k ≤ c' → ∃ rb : Nat, Ending.returned (.pointer (some ⟨w.heap.size, 0, none⟩)) = .returned (.pointer (some ⟨rb, 0, none⟩)) ∧ Rdr B0 (w.alloc (.cells #[.slice A' k c', .int .i64 0] 106)) rb 0 ∧ w.grownBy (w.alloc (.cells #[.slice A' k c', .int .i64 0] 106)) none ∧ w.heap.size ≤ rb := by
    intro k hk hk2 A' c' hA hc'
    subst hA
    refine ⟨_, rfl, ⟨_, k, hk2, Blk.new w _ _, hB, by simp; omega, A', c', rfl, hc', fun hk0 => ?_⟩, gb_alloc (gb_refl w none) _, Nat.le_refl _⟩
    obtain ⟨ad, hA, hb, hc⟩ := hcells (by omega)
    refine ⟨ad, hA, hb, fun j hj => ?_⟩
    obtain ⟨b, h1, h2, h3⟩ := hc j (by omega)
    exact ⟨b, h1, h2, (World.cell?_alloc_lt _ _ _ (by rw [block_add]; omega)).trans h3⟩
  have Key := Lib.hid key
  clear key
  by_cases hlt : (2000 : Int) < n
  · go_enter Tryz.func46, Tryz.ntmps46
    go_wp2_with fail
    go_ret
    exact Key.out 2000 (by omega) (by omega) A c rfl (by omega)
  · go_enter Tryz.func46, Tryz.ntmps46
    go_wp2_with fail
    go_ret
    exact Key.out n (Nat.le_refl _) (by omega) A c rfl hnc
/-- What is drawn stands: the plan, the crew in block cb, the result's cell, the reader. -/
structure DrawSnd (B0 rb : Nat) (w wx : World) (cb : Nat) (pv d k o r : Value) (plan : List Node) (c : Crew) (q : Int) : Prop where
  rd : Rdr B0 wx rb q
  pl : RN wx pv plan
  b : BoxC wx cb d k o r c
  ok : DrawnCrew plan c
  res : Blk wx w.heap.size 27 #[.slice none 0 0, .slice none 0 0, .slice none 0 0, .slice none 0 0]
  hc : w.heap.size < cb
  g : w.grownBy wx (some rb)
  hB : B0 ≤ w.heap.size
section
variable {B0 rb cb : Nat} {w wx wy : World} {pv d k o r : Value} {plan : List Node} {c : Crew} {q q' : Int}
theorem DrawSnd.read (M : DrawSnd B0 rb w wx cb pv d k o r plan c q) (hg : wx.grownBy wy (some rb)) (hr : Rdr B0 wy rb q') : DrawSnd B0 rb w wy cb pv d k o r plan c q' := by
  have hI := M.rd.ne (E := 3) (by decide)
  have hL := M.rd.ne (E := 25) (by decide)
  have hN := M.rd.ne (E := 94) (by decide)
  have hC := M.rd.ne (E := 27) (by decide)
  exact ⟨hr, M.pl.grown hg hI hN, M.b.grown hg (fun e => hC _ e.symm _ M.b.b) hI hL, M.ok, M.res.past hg hC, M.hc, gb_trans M.g hg, M.hB⟩
theorem DrawSnd.new (M : DrawSnd B0 rb w wx cb pv d k o r plan c q) (hg : wx.grownBy wy none) : DrawSnd B0 rb w wy cb pv d k o r plan c q :=
  ⟨M.rd.new hg, M.pl.new hg, M.b.new hg, M.ok, M.res.grown hg (by simp), M.hc, gb_none M.g hg, M.hB⟩
theorem DrawSnd.drew (M : DrawSnd B0 rb w wx cb pv d k o r plan c q) : DrawSnd B0 rb w wx.drew cb pv d k o r plan c q := M.new (gb_drew (gb_refl _ none))
theorem DrawSnd.res_ (M : DrawSnd B0 rb w wx cb pv d k o r plan c q) : DrawSnd B0 rb w wx cb pv d k o r plan c q ∧ w.heap.size ≠ cb ∧ w.heap.size ≠ rb := by
  obtain ⟨bv, hbv⟩ := M.rd.blk
  exact ⟨M, Nat.ne_of_lt M.hc, M.res.ne_ hbv (by decide)⟩
end
/-- What is drawn with a worker's number. -/
def WorkPost (B0 rb : Nat) (w : World) (p : Int) (e : Ending) (w' : World) : Prop :=
  ∃ pv v wk plan c, e = .returned (.tuple #[pv, v, .int .i64 wk]) ∧ -1 ≤ wk ∧ wk ≤ 10 ∧ RN w' pv plan ∧ CV w' v c ∧ smallPlan plan ∧ DrawnCrew plan c ∧ ∃ p', p ≤ p' ∧ p' ≤ p + 3100 ∧ Rdr B0 w' rb p' ∧ w.grownBy w' (some rb)
theorem WorkPost.drew {B0 rb : Nat} {w w' : World} {p : Int} {e : Ending} (h : WorkPost B0 rb w p e w') : WorkPost B0 rb w p e w'.drew := by
  obtain ⟨pv, v, wk, plan, c, he, hb1, hb2, h1, h2, h3, h4, q, h5, h6, h7, h8⟩ := h
  have hg := gb_drew (gb_refl w' none)
  exact ⟨pv, v, wk, plan, c, he, hb1, hb2, h1.new hg, h2.new hg, h3, h4, q, h5, h6, h7.new hg, gb_drew h8⟩
theorem workGive {B0 rb cb : Nat} {w wx : World} {pv d k o r : Value} {plan : List Node} {c : Crew} {q p wk : Int} (M : DrawSnd B0 rb w wx cb pv d k o r plan c q) (hs : smallPlan plan) (h0 : p ≤ q) (h1 : q ≤ p + 3100) (hk0 : -1 ≤ wk) (hk1 : wk ≤ 10) :
    WorkPost B0 rb w p (.returned (.tuple #[pv, .agg #[d, k, o, r], .int .i64 wk])) ((((wx.setCell ⟨w.heap.size, 0, none⟩ d).setCell ⟨w.heap.size, 1, none⟩ k).setCell ⟨w.heap.size, 2, none⟩ o).setCell ⟨w.heap.size, 3, none⟩ r) := by
  have hst := gb_set4 wx w.heap.size d k o r
  have hR := M.res
  have hI : NotE wx 3 (some w.heap.size) := NotE.blk hR (by decide)
  have hL : NotE wx 25 (some w.heap.size) := NotE.blk hR (by decide)
  have hN : NotE wx 94 (some w.heap.size) := NotE.blk hR (by decide)
  obtain ⟨-, -, hne⟩ := M.res_
  exact ⟨_, _, wk, plan, c, rfl, hk0, hk1, M.pl.grown hst hI hN, M.b.cv.grown hst hI hL, hs, M.ok, q, h0, h1, M.rd.kept hst (fun g e => by cases e; exact ⟨M.hB, hne⟩), gb_new M.g hst (fun g e => by cases e; exact .inl (Nat.le_refl _))⟩
theorem drawn_len {plan : List Node} {c : Crew} (h : DrawnCrew plan c) : c.deques.length ≤ 4 := by
  rcases h with h | rfl
  · exact h.d4
  · exact Nat.zero_le _
set_option maxHeartbeats 1600000 in
set_option maxRecDepth 20000 in
theorem l92Worker_any (B0 rb : Nat) (p : Int) (w : World) (h : Rdr B0 w rb p) (hp0 : 0 ≤ p) (hp : p ≤ 600000) :
    Calls Tryz.prog 47 #[.pointer (some ⟨rb, 0, none⟩)] w (WorkPost B0 rb w p) := by
  have hB : B0 ≤ w.heap.size := by obtain ⟨_, _, _, _, _, h4, _⟩ := h; exact h4
  have hR0 := Blk.new w 27 #[.slice none 0 0, .slice none 0 0, .slice none 0 0, .slice none 0 0]
  have hgR := World.grownBy_alloc w (.cells #[.slice none 0 0, .slice none 0 0, .slice none 0 0, .slice none 0 0] 27) none
  go_enter Tryz.func47, Tryz.ntmps47
  go_upto_region 1 with fail
  have hrd0 := h.new hgR
  generalize w.alloc (.cells #[.slice none 0 0, .slice none 0 0, .slice none 0 0, .slice none 0 0] 27) = W at hR0 hgR hrd0 ⊢
  go_wp2_with fail
  refine (l92Crew_any B0 rb p W hrd0 (by omega) (by omega)).mono ?_
  rintro e w1 ⟨pv, v, plan, c, rfl, hpl, hcv, hsm, hok, q, hq0, hq1, hrd1, hg1⟩
  obtain ⟨An, nn, cn, rfl, -, -, -⟩ := hpl.form'
  obtain ⟨A1, n1, c1, A2, n2, c2, A3, n3, c3, A4, n4, c4, rfl, hdq, -, -, -⟩ := hcv.form
  have hn1 : n1 ≤ 4 := by have := drawn_len hok; have := hdq.len; omega
  have Hsm := Lib.hid hsm
  have hR1 : Blk w1 w.heap.size 27 #[.slice none 0 0, .slice none 0 0, .slice none 0 0, .slice none 0 0] := hR0.past hg1 (hrd0.ne (by decide))
  have g1 : w.grownBy w1 (some rb) := gb_trans (gb_some hgR _) hg1
  have hgA := World.grownBy_alloc w1 (.cells #[.slice A1 n1 c1, .slice A2 n2 c2, .slice A3 n3 c3, .slice A4 n4 c4] 27) none
  have hRlt := hR1.lt
  have M0 : DrawSnd B0 rb w (w1.alloc (.cells #[.slice A1 n1 c1, .slice A2 n2 c2, .slice A3 n3 c3, .slice A4 n4 c4] 27)) w1.heap.size (.slice An nn cn) (.slice A1 n1 c1) (.slice A2 n2 c2) (.slice A3 n3 c3) (.slice A4 n4 c4) plan c q :=
    ⟨hrd1.new hgA, hpl.new hgA, CV.box_in hcv hgA (Blk.new _ _ _), hok, hR1.grown hgA (by simp), hRlt, gb_none g1 hgA, hB⟩
  go_upto_region 2 with fail
  generalize w1.alloc (.cells #[.slice A1 n1 c1, .slice A2 n2 c2, .slice A3 n3 c3, .slice A4 n4 c4] 27) = wr at M0 ⊢
  generalize w1.heap.size = cb at M0 ⊢
  clear hgR hR0 hrd0 hg1 hsm hR1 g1 hgA hRlt hdq hok hcv hpl hrd1
  obtain ⟨M, hRc, hRr⟩ := M0.res_
  clear M0
  have z0 := M.b.d0
  have z1 := M.b.d1
  have z2 := M.b.d2
  have z3 := M.b.d3
  have y0 := M.res.cell 0
  have y1 := M.res.cell 1
  have y2 := M.res.cell 2
  have y3 := M.res.cell 3
  have f0 := M.res.frozen 0
  have f1 := M.res.frozen 1
  have f2 := M.res.frozen 2
  have f3 := M.res.frozen 3
  have hw1 : IntKind.i64.wrap ((n1 : Int) + 1) = (n1 : Int) + 1 := IntWalk.i64_in _ (by omega)
  go_region_held3 (fun w' => w'.cell? ⟨cb, 0, none⟩ = some (.slice A1 n1 c1) ∧ w'.cell? ⟨cb, 1, none⟩ = some (.slice A2 n2 c2) ∧ w'.cell? ⟨cb, 2, none⟩ = some (.slice A3 n3 c3) ∧ w'.cell? ⟨cb, 3, none⟩ = some (.slice A4 n4 c4)) (go_keep) (first
    | (go_at_call 48; have hMA := MA; refine (pick_any B0 rb (q + 1) _ _ (by first | exact MA.rd | exact MA.drew.rd) (by omega) (by omega)).mono ?_; rintro e wB ⟨rB, rfl, hrB, -, hrdB, hgB⟩; have hrB' := hrB (by omega); have MB := (by first | exact MA.read hgB hrdB | exact MA.drew.read hgB hrdB : DrawSnd B0 rb w wB cb (.slice An nn cn) (.slice A1 n1 c1) (.slice A2 n2 c2) (.slice A3 n3 c3) (.slice A4 n4 c4) plan c (q + 1 + 1)); have k0 := MB.b.d0; have k1 := MB.b.d1; have k2 := MB.b.d2; have k3 := MB.b.d3; have y0 := MB.res.cell 0; have y1 := MB.res.cell 1; have y2 := MB.res.cell 2; have y3 := MB.res.cell 3; have f0 := MB.res.frozen 0; have f1 := MB.res.frozen 1; have f2 := MB.res.frozen 2; have f3 := MB.res.frozen 3)
    | (go_at_call 48; refine (pick_any B0 rb q _ _ (by first | exact M.rd | exact M.drew.rd) (by omega) (by omega)).mono ?_; rintro e wA ⟨rA, rfl, hrA, -, hrdA, hgA⟩; have hrA' := hrA (by omega); have MA := (by first | exact M.read hgA hrdA | exact M.drew.read hgA hrdA : DrawSnd B0 rb w wA cb (.slice An nn cn) (.slice A1 n1 c1) (.slice A2 n2 c2) (.slice A3 n3 c3) (.slice A4 n4 c4) plan c (q + 1)); have k0 := MA.b.d0; have k1 := MA.b.d1; have k2 := MA.b.d2; have k3 := MA.b.d3))
  have e1 : rB.tdiv 19 = rB / 19 := Int.tdiv_eq_ediv_of_nonneg hrB'.1
  have e2 : IntKind.i64.wrap (rB / 19) = rB / 19 := IntWalk.i64_in _ (by omega)
  have e3 : IntKind.i64.wrap (rA - rB / 19) = rA - rB / 19 := IntWalk.i64_in _ (by omega)
  have hfin := Lib.hid (workGive MB Hsm.out (show p ≤ q + 1 + 1 by omega) (by omega) (wk := IntKind.i64.wrap (rA - IntKind.i64.wrap (rB.tdiv 19))) (by rw [e1, e2, e3]; omega) (by rw [e1, e2, e3]; omega))
  clear e1 e2 e3 MB MA M
  go_wp2_with fail
  refine bodyPost_ret (v := .tuple #[.slice An nn cn, .agg #[.slice A1 n1 c1, .slice A2 n2 c2, .slice A3 n3 c3, .slice A4 n4 c4], .int .i64 (IntKind.i64.wrap (rA - IntKind.i64.wrap (rB.tdiv 19)))]) (by simp [results, Tryz.results47, go_sem, y0, y1, y2, y3]) rfl ?_
  exact hfin.out
/-- What a turn's draw gives. -/
def DrawnTurn (w : World) (e : Ending) (w' : World) : Prop :=
  ∃ pv v wk plan c, e = .returned (.tuple #[pv, v, .int .i64 wk]) ∧ RN w' pv plan ∧ CV w' v c ∧ smallPlan plan ∧ DrawnCrew plan c ∧ w.grownBy w' none
theorem DrawnTurn.drew {w w' : World} {e : Ending} (h : DrawnTurn w e w') : DrawnTurn w e w'.drew := by
  obtain ⟨pv, v, wk, plan, c, he, h1, h2, h3, h4, h8⟩ := h
  have hg := gb_drew (gb_refl w' none)
  exact ⟨pv, v, wk, plan, c, he, h1.new hg, h2.new hg, h3, h4, gb_drew h8⟩
theorem drawnGive {w wx : World} {pv d k o r : Value} {plan : List Node} {c : Crew} {wk : Int} (hp : RN wx pv plan) (hc : CV wx (.agg #[d, k, o, r]) c) (hR : Blk wx w.heap.size 27 #[.slice none 0 0, .slice none 0 0, .slice none 0 0, .slice none 0 0]) (hg : w.grownBy wx none) (hs : smallPlan plan) (hd : DrawnCrew plan c) :
    DrawnTurn w (.returned (.tuple #[pv, .agg #[d, k, o, r], .int .i64 wk])) ((((wx.setCell ⟨w.heap.size, 0, none⟩ d).setCell ⟨w.heap.size, 1, none⟩ k).setCell ⟨w.heap.size, 2, none⟩ o).setCell ⟨w.heap.size, 3, none⟩ r) := by
  have hst := gb_set4 wx w.heap.size d k o r
  have hI : NotE wx 3 (some w.heap.size) := NotE.blk hR (by decide)
  have hL : NotE wx 25 (some w.heap.size) := NotE.blk hR (by decide)
  have hN : NotE wx 94 (some w.heap.size) := NotE.blk hR (by decide)
  exact ⟨_, _, wk, plan, c, rfl, hp.grown hst hI hN, hc.grown hst hI hL, hs, hd, gb_new hg hst (fun g e => by cases e; exact .inl (Nat.le_refl _))⟩
theorem Bytes.raise {w : World} {B0 B1 n : Nat} {v : Value} (h : Bytes w B0 v n) (hB : B0 ≤ B1) : Bytes w B1 v n := by
  obtain ⟨A, c, h1, h2, h3⟩ := h
  exact ⟨A, c, h1, h2, fun hn => let ⟨ad, h4, h5, h6⟩ := h3 hn; ⟨ad, h4, by omega, h6⟩⟩
set_option maxHeartbeats 1600000 in
set_option maxRecDepth 20000 in
theorem drawDrawLoseWorker_any (w : World) (v : Value) (n : Nat) (h : Bytes w w.heap.size v n) (hn : n ≤ 1048576) : Calls Tryz.prog 41 #[v] w (DrawnTurn w) := by
  obtain ⟨A, c, rfl, -⟩ := id h
  have hR0 := Blk.new w 27 #[.slice none 0 0, .slice none 0 0, .slice none 0 0, .slice none 0 0]
  have hgR := World.grownBy_alloc w (.cells #[.slice none 0 0, .slice none 0 0, .slice none 0 0, .slice none 0 0] 27) none
  have hb0 := h.kept hgR (Nat.le_refl _) (fun g e => by cases e)
  go_enter Tryz.func41, Tryz.ntmps41
  go_upto_region 1 with fail
  generalize w.alloc (.cells #[.slice none 0 0, .slice none 0 0, .slice none 0 0, .slice none 0 0] 27) = W at hR0 hgR hb0 ⊢
  go_wp2_with fail
  refine (l6OpenB_any w.heap.size W _ n (by exact hb0) hgR.size hn).mono ?_
  rintro e w1 ⟨rb, rfl, hrd1, hg1, hrl⟩
  go_wp2_with fail
  refine (l92Worker_any w.heap.size rb 0 w1 hrd1 (by omega) (by omega)).mono ?_
  rintro e w2 ⟨pv, v2, wk, plan, cc, rfl, -, -, hpl, hcv, hsm, hok, q, hq0, hq1, hrd2, hg2⟩
  obtain ⟨An, nn, cn, rfl, -, -, -⟩ := hpl.form'
  obtain ⟨A1, n1, c1, A2, n2, c2, A3, n3, c3, A4, n4, c4, rfl, -, -, -, -⟩ := hcv.form
  have hR2 := (hR0.grown hg1 (by simp)).past hg2 (hrd1.ne (by decide))
  have g2 := gb_new (gb_trans hgR hg1) hg2 (fun g e => by cases e; exact .inl hrd1.le)
  have y0 := hR2.cell 0
  have y1 := hR2.cell 1
  have y2 := hR2.cell 2
  have y3 := hR2.cell 3
  have f0 := hR2.frozen 0
  have f1 := hR2.frozen 1
  have f2 := hR2.frozen 2
  have f3 := hR2.frozen 3
  have hfin := Lib.hid (drawnGive hpl hcv hR2 g2 hsm hok (wk := wk))
  clear hR0 hgR hb0 hrd1 hg1 hpl hcv hsm hok hrd2 hg2 hR2 g2 h
  go_wp2_with fail
  refine bodyPost_ret (v := .tuple #[.slice An nn cn, .agg #[.slice A1 n1 c1, .slice A2 n2 c2, .slice A3 n3 c3, .slice A4 n4 c4], .int .i64 wk]) (by simp [results, Tryz.results41, go_sem, y0, y1, y2, y3]) rfl ?_
  exact hfin.out
set_option maxHeartbeats 1600000 in
set_option maxRecDepth 20000 in
theorem drawDrawTurnNext_any (w : World) (v : Value) (n : Nat) (h : Bytes w w.heap.size v n) (hn : n ≤ 1048576) : Calls Tryz.prog 36 #[v] w (DrawnTurn w) := by
  obtain ⟨A, c, rfl, -⟩ := id h
  have hR0 := Blk.new w 27 #[.slice none 0 0, .slice none 0 0, .slice none 0 0, .slice none 0 0]
  have hgR := World.grownBy_alloc w (.cells #[.slice none 0 0, .slice none 0 0, .slice none 0 0, .slice none 0 0] 27) none
  have hb0 := h.kept hgR (Nat.le_refl _) (fun g e => by cases e)
  go_enter Tryz.func36, Tryz.ntmps36
  go_upto_region 1 with fail
  generalize w.alloc (.cells #[.slice none 0 0, .slice none 0 0, .slice none 0 0, .slice none 0 0] 27) = W at hR0 hgR hb0 ⊢
  go_wp2_with fail
  refine (l6OpenB_any w.heap.size W _ n (by exact hb0) hgR.size hn).mono ?_
  rintro e w1 ⟨rb, rfl, hrd1, hg1, hrl⟩
  go_wp2_with fail
  refine (l92Worker_any w.heap.size rb 0 w1 hrd1 (by omega) (by omega)).mono ?_
  rintro e w2 ⟨pv, v2, wk, plan, cc, rfl, -, -, hpl, hcv, hsm, hok, q, hq0, hq1, hrd2, hg2⟩
  obtain ⟨An, nn, cn, rfl, -, -, -⟩ := hpl.form'
  obtain ⟨A1, n1, c1, A2, n2, c2, A3, n3, c3, A4, n4, c4, rfl, -, -, -, -⟩ := hcv.form
  have hR2 := (hR0.grown hg1 (by simp)).past hg2 (hrd1.ne (by decide))
  have g2 := gb_new (gb_trans hgR hg1) hg2 (fun g e => by cases e; exact .inl hrd1.le)
  have y0 := hR2.cell 0
  have y1 := hR2.cell 1
  have y2 := hR2.cell 2
  have y3 := hR2.cell 3
  have f0 := hR2.frozen 0
  have f1 := hR2.frozen 1
  have f2 := hR2.frozen 2
  have f3 := hR2.frozen 3
  have hfin := Lib.hid (drawnGive hpl hcv hR2 g2 hsm hok (wk := wk))
  clear hR0 hgR hb0 hrd1 hg1 hpl hcv hsm hok hrd2 hg2 hR2 g2 h
  go_wp2_with fail
  refine bodyPost_ret (v := .tuple #[.slice An nn cn, .agg #[.slice A1 n1 c1, .slice A2 n2 c2, .slice A3 n3 c3, .slice A4 n4 c4], .int .i64 wk]) (by simp [results, Tryz.results36, go_sem, y0, y1, y2, y3]) rfl ?_
  exact hfin.out
theorem drawn_fit {plan : List Node} {c : Crew} (h : DrawnCrew plan c) : c.deques.length ≤ 1048576 ∧ ∀ d ∈ c.deques, d.length ≤ 1048576 := by
  rcases h with h | rfl
  · exact ⟨by have := h.d4; omega, fun d hd => by have := deque_len h d hd; omega⟩
  · exact ⟨Nat.zero_le _, fun d hd => by cases hd⟩
theorem sndGive {rb cb : Nat} {w wx : World} {pv d k o r : Value} {plan : List Node} {c : Crew} {q wk : Int} (M : DrawSnd w.heap.size rb w wx cb pv d k o r plan c q) (hs : smallPlan plan) :
    DrawnTurn w (.returned (.tuple #[pv, .agg #[d, k, o, r], .int .i64 wk])) ((((wx.setCell ⟨w.heap.size, 0, none⟩ d).setCell ⟨w.heap.size, 1, none⟩ k).setCell ⟨w.heap.size, 2, none⟩ o).setCell ⟨w.heap.size, 3, none⟩ r) :=
  drawnGive M.pl M.b.cv M.res (gb_new (gb_refl w none) M.g (fun g e => by cases e; exact .inl M.rd.le)) hs M.ok
set_option maxHeartbeats 1600000 in
set_option maxRecDepth 20000 in
theorem drawTurnRun_any (w : World) (v : Value) (n : Nat) (h : Bytes w w.heap.size v n) (hn : n ≤ 1048576) : Calls Tryz.prog 16 #[v] w (DrawnTurn w) := by
  obtain ⟨A, c, rfl, -⟩ := id h
  have hR0 := Blk.new w 27 #[.slice none 0 0, .slice none 0 0, .slice none 0 0, .slice none 0 0]
  have hgR := World.grownBy_alloc w (.cells #[.slice none 0 0, .slice none 0 0, .slice none 0 0, .slice none 0 0] 27) none
  have hb0 := h.kept hgR (Nat.le_refl _) (fun g e => by cases e)
  go_enter Tryz.func16, Tryz.ntmps16
  go_upto_region 1 with fail
  generalize w.alloc (.cells #[.slice none 0 0, .slice none 0 0, .slice none 0 0, .slice none 0 0] 27) = W at hR0 hgR hb0 ⊢
  go_wp2_with fail
  refine (l6OpenB_any w.heap.size W _ n (by exact hb0) hgR.size hn).mono ?_
  rintro e w1 ⟨rb, rfl, hrd1, hg1, hrl⟩
  go_wp2_with fail
  refine (l92Worker_any w.heap.size rb 0 w1 hrd1 (by omega) (by omega)).mono ?_
  rintro e w2 ⟨pv, v2, wk, plan, cc, rfl, -, -, hpl, hcv, hsm, hok, q, hq0, hq1, hrd2, hg2⟩
  obtain ⟨An, nn, cn, rfl, -, -, -⟩ := hpl.form'
  obtain ⟨A1, n1, c1, A2, n2, c2, A3, n3, c3, A4, n4, c4, rfl, hdq, -, -, -⟩ := hcv.form
  have hn1 : n1 ≤ 4 := by have := drawn_len hok; have := hdq.len; omega
  have Hn1 := Lib.hid hdq.len
  have Hsm := Lib.hid hsm
  have hpl5 : plan.length ≤ 1000000000 := by have := Hsm.out.1; omega
  have Hfit : Hid (cc.deques.length ≤ 1048576 ∧ ∀ d ∈ cc.deques, d.length ≤ 1048576) := drawn_fit hok
  have hR2 := (hR0.grown hg1 (by simp)).past hg2 (hrd1.ne (by decide))
  have g2 := gb_trans (gb_some (gb_trans hgR hg1) (some rb)) hg2
  have hgA := World.grownBy_alloc w2 (.cells #[.slice A1 n1 c1, .slice A2 n2 c2, .slice A3 n3 c3, .slice A4 n4 c4] 27) none
  have hRlt := hR2.lt
  have M0 : DrawSnd w.heap.size rb w (w2.alloc (.cells #[.slice A1 n1 c1, .slice A2 n2 c2, .slice A3 n3 c3, .slice A4 n4 c4] 27)) w2.heap.size (.slice An nn cn) (.slice A1 n1 c1) (.slice A2 n2 c2) (.slice A3 n3 c3) (.slice A4 n4 c4) plan cc q :=
    ⟨hrd2.new hgA, hpl.new hgA, CV.box_in hcv hgA (Blk.new _ _ _), hok, hR2.grown hgA (by simp), hRlt, gb_none g2 hgA, Nat.le_refl _⟩
  go_upto_region 3 with fail
  generalize w2.alloc (.cells #[.slice A1 n1 c1, .slice A2 n2 c2, .slice A3 n3 c3, .slice A4 n4 c4] 27) = wr at M0 ⊢
  generalize w2.heap.size = cb at M0 ⊢
  clear hR0 hgR hb0 hrd1 hg1 hrl hpl hcv hsm hok hdq hrd2 hg2 hR2 g2 hgA hRlt h
  have hrd := M0.rd
  go_wp2_with fail
  refine (pick_any w.heap.size rb q _ _ hrd (by omega) (by omega)).mono ?_
  rintro e w3 ⟨r3, rfl, hr3, -, hrd3, hg3⟩
  have hr3' := hr3 (by omega)
  obtain ⟨M, hRc, hRr⟩ := (M0.read hg3 hrd3).res_
  clear M0 hrd hr3 hrd3 hg3
  have y0 := M.res.cell 0
  have y1 := M.res.cell 1
  have y2 := M.res.cell 2
  have y3 := M.res.cell 3
  have f0 := M.res.frozen 0
  have f1 := M.res.frozen 1
  have f2 := M.res.frozen 2
  have f3 := M.res.frozen 3
  have z0 := M.b.d0
  have z1 := M.b.d1
  have z2 := M.b.d2
  have z3 := M.b.d3
  by_cases h0 : r3 = 0
  · subst h0
    go_wp2_with fail
    go_region_held3 (fun w' => w'.cell? ⟨cb, 0, none⟩ = some (.slice A1 n1 c1) ∧ w'.cell? ⟨cb, 1, none⟩ = some (.slice A2 n2 c2) ∧ w'.cell? ⟨cb, 2, none⟩ = some (.slice A3 n3 c3) ∧ w'.cell? ⟨cb, 3, none⟩ = some (.slice A4 n4 c4)) (go_keep) (first
      | (go_at_call 49; refine (specTurnFrom_any _ _ plan cc 0 _ (by first | exact M.pl | exact M.drew.pl) (by first | exact M.b.cv | exact M.drew.b.cv) hpl5 Hfit.out).mono ?_; rintro e w4 ⟨rfl, hg4⟩; have M4 := (by first | exact M.new hg4 | exact M.drew.new hg4 : DrawSnd w.heap.size rb w w4 cb (.slice An nn cn) (.slice A1 n1 c1) (.slice A2 n2 c2) (.slice A3 n3 c3) (.slice A4 n4 c4) plan cc (q + 1)); have y0 := M4.res.cell 0; have y1 := M4.res.cell 1; have y2 := M4.res.cell 2; have y3 := M4.res.cell 3; have f0 := M4.res.frozen 0; have f1 := M4.res.frozen 1; have f2 := M4.res.frozen 2; have f3 := M4.res.frozen 3; have k0 := M4.b.d0; have k1 := M4.b.d1; have k2 := M4.b.d2; have k3 := M4.b.d3))
    have hfin := Lib.hid (sndGive M4 Hsm.out (wk := turnFrom plan cc 0))
    clear M M4
    go_wp2_with fail
    refine bodyPost_ret (v := .tuple #[.slice An nn cn, .agg #[.slice A1 n1 c1, .slice A2 n2 c2, .slice A3 n3 c3, .slice A4 n4 c4], .int .i64 (turnFrom plan cc 0)]) (by simp [results, Tryz.results16, go_sem, y0, y1, y2, y3]) rfl ?_
    exact hfin.out
  · have hb : (r3 == 0) = false := by simpa using h0
    go_wp2_with fail
    go_region_held3 (fun w' => w'.cell? ⟨cb, 0, none⟩ = some (.slice A1 n1 c1) ∧ w'.cell? ⟨cb, 1, none⟩ = some (.slice A2 n2 c2) ∧ w'.cell? ⟨cb, 2, none⟩ = some (.slice A3 n3 c3) ∧ w'.cell? ⟨cb, 3, none⟩ = some (.slice A4 n4 c4)) (go_keep) (skip)
    have hfin := Lib.hid (sndGive M Hsm.out (wk := wk))
    clear M
    go_wp2_with fail
    refine bodyPost_ret (v := .tuple #[.slice An nn cn, .agg #[.slice A1 n1 c1, .slice A2 n2 c2, .slice A3 n3 c3, .slice A4 n4 c4], .int .i64 wk]) (by simp [results, Tryz.results16, go_sem, y0, y1, y2, y3]) rfl ?_
    exact hfin.out.drew
end Go.Proofs.YtihobnheficpjaaGreatDoor
namespace Go.Proofs.YtihobnheficpjaaGreatDoor
open Go.RowKit
/-- What the draw of a theft gives. -/
def DrawnSteal (w : World) (e : Ending) (w' : World) : Prop :=
  ∃ pv v wk f plan c, e = .returned (.tuple #[pv, v, .int .i64 wk, .int .i64 f]) ∧ RN w' pv plan ∧ CV w' v c ∧ smallPlan plan ∧ DrawnCrew plan c ∧ w.grownBy w' none
theorem DrawnSteal.drew {w w' : World} {e : Ending} (h : DrawnSteal w e w') : DrawnSteal w e w'.drew := by
  obtain ⟨pv, v, wk, f, plan, c, he, h1, h2, h3, h4, h8⟩ := h
  have hg := gb_drew (gb_refl w' none)
  exact ⟨pv, v, wk, f, plan, c, he, h1.new hg, h2.new hg, h3, h4, gb_drew h8⟩
theorem sndSteal {rb cb : Nat} {w wx : World} {pv d k o r : Value} {plan : List Node} {c : Crew} {q wk f : Int} (M : DrawSnd w.heap.size rb w wx cb pv d k o r plan c q) (hs : smallPlan plan) :
    DrawnSteal w (.returned (.tuple #[pv, .agg #[d, k, o, r], .int .i64 wk, .int .i64 f])) ((((wx.setCell ⟨w.heap.size, 0, none⟩ d).setCell ⟨w.heap.size, 1, none⟩ k).setCell ⟨w.heap.size, 2, none⟩ o).setCell ⟨w.heap.size, 3, none⟩ r) := by
  obtain ⟨pv', v', wk', plan', c', he, h1, h2, h3, h4, h5⟩ := sndGive M hs (wk := wk)
  injection he with he
  injection he with he
  injection he with he
  injection he with e1 he
  injection he with e2 he
  subst e1 e2
  exact ⟨_, _, wk, f, plan', c', rfl, h1, h2, h3, h4, h5⟩
set_option maxHeartbeats 3200000 in
set_option maxRecDepth 20000 in
theorem drawTurnSteal_any (w : World) (v : Value) (n : Nat) (h : Bytes w w.heap.size v n) (hn : n ≤ 1048576) : Calls Tryz.prog 24 #[v] w (DrawnSteal w) := by
  obtain ⟨A, c, rfl, -⟩ := id h
  have hR0 := Blk.new w 27 #[.slice none 0 0, .slice none 0 0, .slice none 0 0, .slice none 0 0]
  have hgR := World.grownBy_alloc w (.cells #[.slice none 0 0, .slice none 0 0, .slice none 0 0, .slice none 0 0] 27) none
  have hb0 := h.kept hgR (Nat.le_refl _) (fun g e => by cases e)
  go_enter Tryz.func24, Tryz.ntmps24
  go_upto_region 1 with fail
  generalize w.alloc (.cells #[.slice none 0 0, .slice none 0 0, .slice none 0 0, .slice none 0 0] 27) = W at hR0 hgR hb0 ⊢
  go_wp2_with fail
  refine (l6OpenB_any w.heap.size W _ n (by exact hb0) hgR.size hn).mono ?_
  rintro e w1 ⟨rb, rfl, hrd1, hg1, hrl⟩
  go_wp2_with fail
  refine (l92Worker_any w.heap.size rb 0 w1 hrd1 (by omega) (by omega)).mono ?_
  rintro e w2 ⟨pv, v2, wk, plan, cc, rfl, -, -, hpl, hcv, hsm, hok, q, hq0, hq1, hrd2, hg2⟩
  obtain ⟨An, nn, cn, rfl, -, -, -⟩ := hpl.form'
  obtain ⟨A1, n1, c1, A2, n2, c2, A3, n3, c3, A4, n4, c4, rfl, hdq, -, -, -⟩ := hcv.form
  have hn1 : n1 ≤ 4 := by have := drawn_len hok; have := hdq.len; omega
  have Hn1 := Lib.hid hdq.len
  have Hsm := Lib.hid hsm
  have hpl5 : plan.length ≤ 1000000000 := by have := Hsm.out.1; omega
  have Hfit : Hid (cc.deques.length ≤ 1048576 ∧ ∀ d ∈ cc.deques, d.length ≤ 1048576) := drawn_fit hok
  have hR2 := (hR0.grown hg1 (by simp)).past hg2 (hrd1.ne (by decide))
  have g2 := gb_trans (gb_some (gb_trans hgR hg1) (some rb)) hg2
  have hgA := World.grownBy_alloc w2 (.cells #[.slice A1 n1 c1, .slice A2 n2 c2, .slice A3 n3 c3, .slice A4 n4 c4] 27) none
  have hRlt := hR2.lt
  have M0 : DrawSnd w.heap.size rb w (w2.alloc (.cells #[.slice A1 n1 c1, .slice A2 n2 c2, .slice A3 n3 c3, .slice A4 n4 c4] 27)) w2.heap.size (.slice An nn cn) (.slice A1 n1 c1) (.slice A2 n2 c2) (.slice A3 n3 c3) (.slice A4 n4 c4) plan cc q :=
    ⟨hrd2.new hgA, hpl.new hgA, CV.box_in hcv hgA (Blk.new _ _ _), hok, hR2.grown hgA (by simp), hRlt, gb_none g2 hgA, Nat.le_refl _⟩
  go_upto_region 3 with fail
  generalize w2.alloc (.cells #[.slice A1 n1 c1, .slice A2 n2 c2, .slice A3 n3 c3, .slice A4 n4 c4] 27) = wr at M0 ⊢
  generalize w2.heap.size = cb at M0 ⊢
  clear hR0 hgR hb0 hrd1 hg1 hrl hpl hcv hsm hok hdq hrd2 hg2 hR2 g2 hgA hRlt h
  go_wp2_with fail
  go_loopg [10] (n1 + 1) (fun mm i wx => ∃ (k : Nat) (q' : Int), k ≤ n1 ∧ mm = n1 + 1 - k ∧ i = .int .i64 k ∧ q ≤ q' ∧ q' ≤ q + k ∧ DrawSnd w.heap.size rb w wx cb (.slice An nn cn) (.slice A1 n1 c1) (.slice A2 n2 c2) (.slice A3 n3 c3) (.slice A4 n4 c4) plan cc q')
  case atStart => exact ⟨0, q, Nat.zero_le _, rfl, rfl, by omega, by omega, M0⟩
  case round =>
    clear M0
    obtain ⟨k, q', hk, rfl, rfl, hqa, hqb, M0⟩ := hrel
    obtain ⟨M, hRc, hRr⟩ := M0.res_
    clear M0
    have hrd := M.rd
    have y0 := M.res.cell 0
    have y1 := M.res.cell 1
    have y2 := M.res.cell 2
    have y3 := M.res.cell 3
    have f0 := M.res.frozen 0
    have f1 := M.res.frozen 1
    have f2 := M.res.frozen 2
    have f3 := M.res.frozen 3
    have z0 := M.b.d0
    have z1 := M.b.d1
    have z2 := M.b.d2
    have z3 := M.b.d3
    by_cases hlt : k < n1
    · obtain ⟨gb, ob, lk, Bk, mk, ek, rfl, hlk, qk, hrk, -, -, -⟩ := M.b.dq.at_ hlt
      clear hlk hrk
      have hki : (k : Int) < (n1 : Int) := by omega
      by_cases h0 : mk = 0
      · subst h0
        go_wp2_with fail
        refine (pick_any w.heap.size rb q' _ _ hrd (by omega) (by omega)).mono ?_
        rintro e w3 ⟨r3, rfl, hr3, -, hrd3, hg3⟩
        have hr3' := hr3 (by omega)
        have M1 := M.read hg3 hrd3
        clear M hrd hr3 hrd3 hg3 y0 y1 y2 y3 f0 f1 f2 f3 z0 z1 z2 z3 qk
        have y0 := M1.res.cell 0
        have y1 := M1.res.cell 1
        have y2 := M1.res.cell 2
        have y3 := M1.res.cell 3
        have f0 := M1.res.frozen 0
        have f1 := M1.res.frozen 1
        have f2 := M1.res.frozen 2
        have f3 := M1.res.frozen 3
        have z0 := M1.b.d0
        have z1 := M1.b.d1
        have z2 := M1.b.d2
        have z3 := M1.b.d3
        by_cases h3 : 0 < r3
        · go_wp2_with fail
          go_region_held3 (fun w' => w'.cell? ⟨cb, 0, none⟩ = some (.slice (some ⟨gb, ob, none⟩) n1 c1) ∧ w'.cell? ⟨cb, 1, none⟩ = some (.slice A2 n2 c2) ∧ w'.cell? ⟨cb, 2, none⟩ = some (.slice A3 n3 c3) ∧ w'.cell? ⟨cb, 3, none⟩ = some (.slice A4 n4 c4)) (go_keep) (first
            | (go_at_call 49; refine (specTurnFrom_any _ _ plan cc (k : Int) _ (by first | exact M1.pl | exact M1.drew.pl) (by first | exact M1.b.cv | exact M1.drew.b.cv) hpl5 Hfit.out).mono ?_; rintro e w4 ⟨rfl, hg4⟩; have M4 := (by first | exact M1.new hg4 | exact M1.drew.new hg4 : DrawSnd w.heap.size rb w w4 cb (.slice An nn cn) (.slice (some ⟨gb, ob, none⟩) n1 c1) (.slice A2 n2 c2) (.slice A3 n3 c3) (.slice A4 n4 c4) plan cc (q' + 1)); have y0 := M4.res.cell 0; have y1 := M4.res.cell 1; have y2 := M4.res.cell 2; have y3 := M4.res.cell 3; have f0 := M4.res.frozen 0; have f1 := M4.res.frozen 1; have f2 := M4.res.frozen 2; have f3 := M4.res.frozen 3; have k0 := M4.b.d0; have k1 := M4.b.d1; have k2 := M4.b.d2; have k3 := M4.b.d3))
          have hfin := Lib.hid (sndSteal M4 Hsm.out (wk := (k : Int)) (f := turnFrom plan cc (k : Int)))
          clear M1 M4
          go_wp2_with fail
          refine bodyPost_ret (v := .tuple #[.slice An nn cn, .agg #[.slice (some ⟨gb, ob, none⟩) n1 c1, .slice A2 n2 c2, .slice A3 n3 c3, .slice A4 n4 c4], .int .i64 (k : Int), .int .i64 (turnFrom plan cc (k : Int))]) (by simp [results, Tryz.results24, go_sem, y0, y1, y2, y3]) rfl ?_
          exact hfin.out
        · go_wp2_with fail
          go_roundg (n1 + 1 - (k + 1))
          case measure => omega
          case rel => exact ⟨k + 1, q' + 1, by omega, rfl, by go_num, by omega, by omega, M1⟩
      · have hb : ((mk : Int) == 0) = false := by simpa using h0
        go_wp2_with fail
        go_roundg (n1 + 1 - (k + 1))
        case measure => omega
        case rel => exact ⟨k + 1, q', by omega, rfl, by go_num, by omega, by omega, M⟩
    · obtain rfl : n1 = k := by omega
      go_wp2_with fail
      go_region_held3 (fun w' => w'.cell? ⟨cb, 0, none⟩ = some (.slice A1 n1 c1) ∧ w'.cell? ⟨cb, 1, none⟩ = some (.slice A2 n2 c2) ∧ w'.cell? ⟨cb, 2, none⟩ = some (.slice A3 n3 c3) ∧ w'.cell? ⟨cb, 3, none⟩ = some (.slice A4 n4 c4)) (go_keep) (first
        | (go_at_call 48; refine (pick_any w.heap.size rb q' _ _ (by first | exact M.rd | exact M.drew.rd) (by omega) (by omega)).mono ?_; rintro e w4 ⟨r4, rfl, hr4, -, hrd4, hg4⟩; have M4 := (by first | exact M.read hg4 hrd4 | exact M.drew.read hg4 hrd4 : DrawSnd w.heap.size rb w w4 cb (.slice An nn cn) (.slice A1 n1 c1) (.slice A2 n2 c2) (.slice A3 n3 c3) (.slice A4 n4 c4) plan cc (q' + 1)); have y0 := M4.res.cell 0; have y1 := M4.res.cell 1; have y2 := M4.res.cell 2; have y3 := M4.res.cell 3; have f0 := M4.res.frozen 0; have f1 := M4.res.frozen 1; have f2 := M4.res.frozen 2; have f3 := M4.res.frozen 3; have k0 := M4.b.d0; have k1 := M4.b.d1; have k2 := M4.b.d2; have k3 := M4.b.d3))
      have hfin := Lib.hid (sndSteal M4 Hsm.out (wk := wk) (f := r4))
      clear M M4
      go_wp2_with fail
      refine bodyPost_ret (v := .tuple #[.slice An nn cn, .agg #[.slice A1 n1 c1, .slice A2 n2 c2, .slice A3 n3 c3, .slice A4 n4 c4], .int .i64 wk, .int .i64 r4]) (by simp [results, Tryz.results24, go_sem, y0, y1, y2, y3]) rfl ?_
      exact hfin.out
end Go.Proofs.YtihobnheficpjaaGreatDoor
