/- Walks: spec.l92Worker, the draws of the turns. · Walks: impl.isNode, impl.PlanUses. · Walks: impl.LevelOf. -/
import Derived.Test.YtihobnheficpjaaGreatM22
import Derived.Test.YtihobnheficpjaaGreatM11
import Derived.Test.YtihobnheficpjaaGreatM13
import Derived.Test.YtihobnheficpjaaGreatM14
namespace Go.Proofs.YtihobnheficpjaaGreat
open Go.RowKit

/-- The reader opened, its bytes below any bound. -/
theorem l6OpenB_any (B0 : Nat) (w : World) (v : Value) (n : Nat) (h : Bytes w B0 v n) (hB : B0 ≤ w.heap.size) (hn : n ≤ 1048576) :
    Calls Tryz.prog 12 #[v] w (fun e w' => ∃ rb : Nat, e = .returned (.pointer (some ⟨rb, 0, none⟩)) ∧ Rdr B0 w' rb 0 ∧ w.grownBy w' none ∧ w.heap.size ≤ rb) := by
  obtain ⟨A, c, rfl, hnc, hcells⟩ := h
  have key : ∀ k : Nat, k ≤ n → k ≤ 2000 → ∀ A' c', A' = A → k ≤ c' → ∃ rb : Nat, Ending.returned (.pointer (some ⟨w.heap.size, 0, none⟩)) = .returned (.pointer (some ⟨rb, 0, none⟩)) ∧ Rdr B0 (w.alloc (.cells #[.slice A' k c', .int .i64 0] 60)) rb 0 ∧ w.grownBy (w.alloc (.cells #[.slice A' k c', .int .i64 0] 60)) none ∧ w.heap.size ≤ rb := by
    intro k hk hk2 A' c' hA hc'
    subst hA
    refine ⟨_, rfl, ⟨_, k, hk2, Blk.new w _ _, hB, by simp; omega, A', c', rfl, hc', fun hk0 => ?_⟩, gb_alloc (gb_refl w none) _, Nat.le_refl _⟩
    obtain ⟨ad, hA, hb, hc⟩ := hcells (by omega)
    refine ⟨ad, hA, hb, fun j hj => ?_⟩
    obtain ⟨b, h1, h2, h3⟩ := hc j (by omega)
    exact ⟨b, h1, h2, (World.cell?_alloc_lt _ _ _ (by rw [block_add]; omega)).trans h3⟩
  have Key := Lib.hid key
  clear key
  by_cases hlt : (2000 : Int) < n
  · go_enter Tryz.func12, Tryz.ntmps12
    go_wp2_with fail
    go_ret
    exact Key.out 2000 (by omega) (by omega) A c rfl (by omega)
  · go_enter Tryz.func12, Tryz.ntmps12
    go_wp2_with fail
    go_ret
    exact Key.out n (Nat.le_refl _) (by omega) A c rfl hnc
/-- What is drawn stands: the plan, the crew in block cb, the result's cell, the reader. -/
structure DrawSnd (B0 rb : Nat) (w wx : World) (cb : Nat) (pv d k o r : Value) (plan : List Node) (c : Crew) (q : Int) : Prop where
  rd : Rdr B0 wx rb q
  pl : RN wx pv plan
  b : BoxC wx cb d k o r c
  ok : DrawnCrew plan c
  res : Blk wx w.heap.size 27 #[.slice none 0 0, .slice none 0 0, .slice none 0 0, .slice none 0 0]
  hc : w.heap.size < cb
  g : w.grownBy wx (some rb)
  hB : B0 ≤ w.heap.size
section
variable {B0 rb cb : Nat} {w wx wy : World} {pv d k o r : Value} {plan : List Node} {c : Crew} {q q' : Int}
theorem DrawSnd.read (M : DrawSnd B0 rb w wx cb pv d k o r plan c q) (hg : wx.grownBy wy (some rb)) (hr : Rdr B0 wy rb q') : DrawSnd B0 rb w wy cb pv d k o r plan c q' := by
  have hI := M.rd.ne (E := 3) (by decide)
  have hL := M.rd.ne (E := 25) (by decide)
  have hN := M.rd.ne (E := 52) (by decide)
  have hC := M.rd.ne (E := 27) (by decide)
  exact ⟨hr, M.pl.grown hg hI hN, M.b.grown hg (fun e => hC _ e.symm _ M.b.b) hI hL, M.ok, M.res.past hg hC, M.hc, gb_trans M.g hg, M.hB⟩
theorem DrawSnd.new (M : DrawSnd B0 rb w wx cb pv d k o r plan c q) (hg : wx.grownBy wy none) : DrawSnd B0 rb w wy cb pv d k o r plan c q :=
  ⟨M.rd.new hg, M.pl.new hg, M.b.new hg, M.ok, M.res.grown hg (by simp), M.hc, gb_none M.g hg, M.hB⟩
theorem DrawSnd.drew (M : DrawSnd B0 rb w wx cb pv d k o r plan c q) : DrawSnd B0 rb w wx.drew cb pv d k o r plan c q := M.new (gb_drew (gb_refl _ none))
theorem DrawSnd.res_ (M : DrawSnd B0 rb w wx cb pv d k o r plan c q) : DrawSnd B0 rb w wx cb pv d k o r plan c q ∧ w.heap.size ≠ cb ∧ w.heap.size ≠ rb := by
  obtain ⟨bv, hbv⟩ := M.rd.blk
  exact ⟨M, Nat.ne_of_lt M.hc, M.res.ne_ hbv (by decide)⟩
end
/-- What is drawn with a worker's number. -/
def WorkPost (B0 rb : Nat) (w : World) (p : Int) (e : Ending) (w' : World) : Prop :=
  ∃ pv v wk plan c, e = .returned (.tuple #[pv, v, .int .i64 wk]) ∧ -1 ≤ wk ∧ wk ≤ 10 ∧ RN w' pv plan ∧ CV w' v c ∧ smallPlan plan ∧ DrawnCrew plan c ∧ ∃ p', p ≤ p' ∧ p' ≤ p + 3100 ∧ Rdr B0 w' rb p' ∧ w.grownBy w' (some rb)
theorem WorkPost.drew {B0 rb : Nat} {w w' : World} {p : Int} {e : Ending} (h : WorkPost B0 rb w p e w') : WorkPost B0 rb w p e w'.drew := by
  obtain ⟨pv, v, wk, plan, c, he, hb1, hb2, h1, h2, h3, h4, q, h5, h6, h7, h8⟩ := h
  have hg := gb_drew (gb_refl w' none)
  exact ⟨pv, v, wk, plan, c, he, hb1, hb2, h1.new hg, h2.new hg, h3, h4, q, h5, h6, h7.new hg, gb_drew h8⟩
theorem workGive {B0 rb cb : Nat} {w wx : World} {pv d k o r : Value} {plan : List Node} {c : Crew} {q p wk : Int} (M : DrawSnd B0 rb w wx cb pv d k o r plan c q) (hs : smallPlan plan) (h0 : p ≤ q) (h1 : q ≤ p + 3100) (hk0 : -1 ≤ wk) (hk1 : wk ≤ 10) :
    WorkPost B0 rb w p (.returned (.tuple #[pv, .agg #[d, k, o, r], .int .i64 wk])) ((((wx.setCell ⟨w.heap.size, 0, none⟩ d).setCell ⟨w.heap.size, 1, none⟩ k).setCell ⟨w.heap.size, 2, none⟩ o).setCell ⟨w.heap.size, 3, none⟩ r) := by
  have hst := gb_set4 wx w.heap.size d k o r
  have hR := M.res
  have hI : NotE wx 3 (some w.heap.size) := NotE.blk hR (by decide)
  have hL : NotE wx 25 (some w.heap.size) := NotE.blk hR (by decide)
  have hN : NotE wx 52 (some w.heap.size) := NotE.blk hR (by decide)
  obtain ⟨-, -, hne⟩ := M.res_
  exact ⟨_, _, wk, plan, c, rfl, hk0, hk1, M.pl.grown hst hI hN, M.b.cv.grown hst hI hL, hs, M.ok, q, h0, h1, M.rd.kept hst (fun g e => by cases e; exact ⟨M.hB, hne⟩), gb_new M.g hst (fun g e => by cases e; exact .inl (Nat.le_refl _))⟩
theorem drawn_len {plan : List Node} {c : Crew} (h : DrawnCrew plan c) : c.deques.length ≤ 4 := by
  rcases h with h | rfl
  · exact h.d4
  · exact Nat.zero_le _
set_option maxHeartbeats 1600000 in
set_option maxRecDepth 20000 in
theorem l92Worker_any (B0 rb : Nat) (p : Int) (w : World) (h : Rdr B0 w rb p) (hp0 : 0 ≤ p) (hp : p ≤ 600000) :
    Calls Tryz.prog 11 #[.pointer (some ⟨rb, 0, none⟩)] w (WorkPost B0 rb w p) := by
  have hB : B0 ≤ w.heap.size := by obtain ⟨_, _, _, _, _, h4, _⟩ := h; exact h4
  have hR0 := Blk.new w 27 #[.slice none 0 0, .slice none 0 0, .slice none 0 0, .slice none 0 0]
  have hgR := World.grownBy_alloc w (.cells #[.slice none 0 0, .slice none 0 0, .slice none 0 0, .slice none 0 0] 27) none
  go_enter Tryz.func11, Tryz.ntmps11
  go_upto_region 1 with fail
  have hrd0 := h.new hgR
  generalize w.alloc (.cells #[.slice none 0 0, .slice none 0 0, .slice none 0 0, .slice none 0 0] 27) = W at hR0 hgR hrd0 ⊢
  go_wp2_with fail
  refine (l92Crew_any B0 rb p W hrd0 (by omega) (by omega)).mono ?_
  rintro e w1 ⟨pv, v, plan, c, rfl, hpl, hcv, hsm, hok, q, hq0, hq1, hrd1, hg1⟩
  obtain ⟨An, nn, cn, rfl, -, -, -⟩ := hpl.form'
  obtain ⟨A1, n1, c1, A2, n2, c2, A3, n3, c3, A4, n4, c4, rfl, hdq, -, -, -⟩ := hcv.form
  have hn1 : n1 ≤ 4 := by have := drawn_len hok; have := hdq.len; omega
  have Hsm := Lib.hid hsm
  have hR1 : Blk w1 w.heap.size 27 #[.slice none 0 0, .slice none 0 0, .slice none 0 0, .slice none 0 0] := hR0.past hg1 (hrd0.ne (by decide))
  have g1 : w.grownBy w1 (some rb) := gb_trans (gb_some hgR _) hg1
  have hgA := World.grownBy_alloc w1 (.cells #[.slice A1 n1 c1, .slice A2 n2 c2, .slice A3 n3 c3, .slice A4 n4 c4] 27) none
  have hRlt := hR1.lt
  have M0 : DrawSnd B0 rb w (w1.alloc (.cells #[.slice A1 n1 c1, .slice A2 n2 c2, .slice A3 n3 c3, .slice A4 n4 c4] 27)) w1.heap.size (.slice An nn cn) (.slice A1 n1 c1) (.slice A2 n2 c2) (.slice A3 n3 c3) (.slice A4 n4 c4) plan c q :=
    ⟨hrd1.new hgA, hpl.new hgA, CV.box_in hcv hgA (Blk.new _ _ _), hok, hR1.grown hgA (by simp), hRlt, gb_none g1 hgA, hB⟩
  go_upto_region 2 with fail
  generalize w1.alloc (.cells #[.slice A1 n1 c1, .slice A2 n2 c2, .slice A3 n3 c3, .slice A4 n4 c4] 27) = wr at M0 ⊢
  generalize w1.heap.size = cb at M0 ⊢
  clear hgR hR0 hrd0 hg1 hsm hR1 g1 hgA hRlt hdq hok hcv hpl hrd1
  obtain ⟨M, hRc, hRr⟩ := M0.res_
  clear M0
  have z0 := M.b.d0
  have z1 := M.b.d1
  have z2 := M.b.d2
  have z3 := M.b.d3
  have y0 := M.res.cell 0
  have y1 := M.res.cell 1
  have y2 := M.res.cell 2
  have y3 := M.res.cell 3
  have f0 := M.res.frozen 0
  have f1 := M.res.frozen 1
  have f2 := M.res.frozen 2
  have f3 := M.res.frozen 3
  have hw1 : IntKind.i64.wrap ((n1 : Int) + 1) = (n1 : Int) + 1 := IntWalk.i64_in _ (by omega)
  go_region_held3 (fun w' => w'.cell? ⟨cb, 0, none⟩ = some (.slice A1 n1 c1) ∧ w'.cell? ⟨cb, 1, none⟩ = some (.slice A2 n2 c2) ∧ w'.cell? ⟨cb, 2, none⟩ = some (.slice A3 n3 c3) ∧ w'.cell? ⟨cb, 3, none⟩ = some (.slice A4 n4 c4)) (go_keep) (first
    | (go_at_call 28; have hMA := MA; refine (pick_any B0 rb (q + 1) _ _ (by first | exact MA.rd | exact MA.drew.rd) (by omega) (by omega)).mono ?_; rintro e wB ⟨rB, rfl, hrB, -, hrdB, hgB⟩; have hrB' := hrB (by omega); have MB := (by first | exact MA.read hgB hrdB | exact MA.drew.read hgB hrdB : DrawSnd B0 rb w wB cb (.slice An nn cn) (.slice A1 n1 c1) (.slice A2 n2 c2) (.slice A3 n3 c3) (.slice A4 n4 c4) plan c (q + 1 + 1)); have k0 := MB.b.d0; have k1 := MB.b.d1; have k2 := MB.b.d2; have k3 := MB.b.d3; have y0 := MB.res.cell 0; have y1 := MB.res.cell 1; have y2 := MB.res.cell 2; have y3 := MB.res.cell 3; have f0 := MB.res.frozen 0; have f1 := MB.res.frozen 1; have f2 := MB.res.frozen 2; have f3 := MB.res.frozen 3)
    | (go_at_call 28; refine (pick_any B0 rb q _ _ (by first | exact M.rd | exact M.drew.rd) (by omega) (by omega)).mono ?_; rintro e wA ⟨rA, rfl, hrA, -, hrdA, hgA⟩; have hrA' := hrA (by omega); have MA := (by first | exact M.read hgA hrdA | exact M.drew.read hgA hrdA : DrawSnd B0 rb w wA cb (.slice An nn cn) (.slice A1 n1 c1) (.slice A2 n2 c2) (.slice A3 n3 c3) (.slice A4 n4 c4) plan c (q + 1)); have k0 := MA.b.d0; have k1 := MA.b.d1; have k2 := MA.b.d2; have k3 := MA.b.d3))
  have e1 : rB.tdiv 19 = rB / 19 := Int.tdiv_eq_ediv_of_nonneg hrB'.1
  have e2 : IntKind.i64.wrap (rB / 19) = rB / 19 := IntWalk.i64_in _ (by omega)
  have e3 : IntKind.i64.wrap (rA - rB / 19) = rA - rB / 19 := IntWalk.i64_in _ (by omega)
  have hfin := Lib.hid (workGive MB Hsm.out (show p ≤ q + 1 + 1 by omega) (by omega) (wk := IntKind.i64.wrap (rA - IntKind.i64.wrap (rB.tdiv 19))) (by rw [e1, e2, e3]; omega) (by rw [e1, e2, e3]; omega))
  clear e1 e2 e3 MB MA M
  go_wp2_with fail
  refine bodyPost_ret (v := .tuple #[.slice An nn cn, .agg #[.slice A1 n1 c1, .slice A2 n2 c2, .slice A3 n3 c3, .slice A4 n4 c4], .int .i64 (IntKind.i64.wrap (rA - IntKind.i64.wrap (rB.tdiv 19)))]) (by simp [results, Tryz.results11, go_sem, y0, y1, y2, y3]) rfl ?_
  exact hfin.out
/-- What a turn's draw gives. -/
def DrawnTurn (w : World) (e : Ending) (w' : World) : Prop :=
  ∃ pv v wk plan c, e = .returned (.tuple #[pv, v, .int .i64 wk]) ∧ RN w' pv plan ∧ CV w' v c ∧ smallPlan plan ∧ DrawnCrew plan c ∧ w.grownBy w' none
theorem DrawnTurn.drew {w w' : World} {e : Ending} (h : DrawnTurn w e w') : DrawnTurn w e w'.drew := by
  obtain ⟨pv, v, wk, plan, c, he, h1, h2, h3, h4, h8⟩ := h
  have hg := gb_drew (gb_refl w' none)
  exact ⟨pv, v, wk, plan, c, he, h1.new hg, h2.new hg, h3, h4, gb_drew h8⟩
theorem drawnGive {w wx : World} {pv d k o r : Value} {plan : List Node} {c : Crew} {wk : Int} (hp : RN wx pv plan) (hc : CV wx (.agg #[d, k, o, r]) c) (hR : Blk wx w.heap.size 27 #[.slice none 0 0, .slice none 0 0, .slice none 0 0, .slice none 0 0]) (hg : w.grownBy wx none) (hs : smallPlan plan) (hd : DrawnCrew plan c) :
    DrawnTurn w (.returned (.tuple #[pv, .agg #[d, k, o, r], .int .i64 wk])) ((((wx.setCell ⟨w.heap.size, 0, none⟩ d).setCell ⟨w.heap.size, 1, none⟩ k).setCell ⟨w.heap.size, 2, none⟩ o).setCell ⟨w.heap.size, 3, none⟩ r) := by
  have hst := gb_set4 wx w.heap.size d k o r
  have hI : NotE wx 3 (some w.heap.size) := NotE.blk hR (by decide)
  have hL : NotE wx 25 (some w.heap.size) := NotE.blk hR (by decide)
  have hN : NotE wx 52 (some w.heap.size) := NotE.blk hR (by decide)
  exact ⟨_, _, wk, plan, c, rfl, hp.grown hst hI hN, hc.grown hst hI hL, hs, hd, gb_new hg hst (fun g e => by cases e; exact .inl (Nat.le_refl _))⟩
theorem Bytes.raise {w : World} {B0 B1 n : Nat} {v : Value} (h : Bytes w B0 v n) (hB : B0 ≤ B1) : Bytes w B1 v n := by
  obtain ⟨A, c, h1, h2, h3⟩ := h
  exact ⟨A, c, h1, h2, fun hn => let ⟨ad, h4, h5, h6⟩ := h3 hn; ⟨ad, h4, by omega, h6⟩⟩
set_option maxHeartbeats 1600000 in
set_option maxRecDepth 20000 in
theorem drawDrawLoseWorker_any (w : World) (v : Value) (n : Nat) (h : Bytes w w.heap.size v n) (hn : n ≤ 1048576) : Calls Tryz.prog 4 #[v] w (DrawnTurn w) := by
  obtain ⟨A, c, rfl, -⟩ := id h
  have hR0 := Blk.new w 27 #[.slice none 0 0, .slice none 0 0, .slice none 0 0, .slice none 0 0]
  have hgR := World.grownBy_alloc w (.cells #[.slice none 0 0, .slice none 0 0, .slice none 0 0, .slice none 0 0] 27) none
  have hb0 := h.kept hgR (Nat.le_refl _) (fun g e => by cases e)
  go_enter Tryz.func4, Tryz.ntmps4
  go_upto_region 1 with fail
  generalize w.alloc (.cells #[.slice none 0 0, .slice none 0 0, .slice none 0 0, .slice none 0 0] 27) = W at hR0 hgR hb0 ⊢
  go_wp2_with fail
  refine (l6OpenB_any w.heap.size W _ n (by exact hb0) hgR.size hn).mono ?_
  rintro e w1 ⟨rb, rfl, hrd1, hg1, hrl⟩
  go_wp2_with fail
  refine (l92Worker_any w.heap.size rb 0 w1 hrd1 (by omega) (by omega)).mono ?_
  rintro e w2 ⟨pv, v2, wk, plan, cc, rfl, -, -, hpl, hcv, hsm, hok, q, hq0, hq1, hrd2, hg2⟩
  obtain ⟨An, nn, cn, rfl, -, -, -⟩ := hpl.form'
  obtain ⟨A1, n1, c1, A2, n2, c2, A3, n3, c3, A4, n4, c4, rfl, -, -, -, -⟩ := hcv.form
  have hR2 := (hR0.grown hg1 (by simp)).past hg2 (hrd1.ne (by decide))
  have g2 := gb_new (gb_trans hgR hg1) hg2 (fun g e => by cases e; exact .inl hrd1.le)
  have y0 := hR2.cell 0
  have y1 := hR2.cell 1
  have y2 := hR2.cell 2
  have y3 := hR2.cell 3
  have f0 := hR2.frozen 0
  have f1 := hR2.frozen 1
  have f2 := hR2.frozen 2
  have f3 := hR2.frozen 3
  have hfin := Lib.hid (drawnGive hpl hcv hR2 g2 hsm hok (wk := wk))
  clear hR0 hgR hb0 hrd1 hg1 hpl hcv hsm hok hrd2 hg2 hR2 g2 h
  go_wp2_with fail
  refine bodyPost_ret (v := .tuple #[.slice An nn cn, .agg #[.slice A1 n1 c1, .slice A2 n2 c2, .slice A3 n3 c3, .slice A4 n4 c4], .int .i64 wk]) (by simp [results, Tryz.results4, go_sem, y0, y1, y2, y3]) rfl ?_
  exact hfin.out
end Go.Proofs.YtihobnheficpjaaGreat
namespace Go.Proofs.YtihobnheficpjaaGreat
open Go.RowKit

theorem isNode_b (A : Option Addr) (n c : Nat) (at_ : Int) (w : World) {b : Bool} (hb : (decide (0 ≤ at_) && decide (at_ < n)) = b) :
    Calls Tryz.prog 24 #[.slice A n c, .int .i64 at_] w fun e w' => e = .returned (.bool b) ∧ w = w' := by
  subst hb
  go_enter Tryz.func24, Tryz.ntmps24
  by_cases h0 : 0 ≤ at_
  · by_cases h1 : at_ < n
    · go_wp2_with fail
      go_ret
      exact ⟨by simp; omega, rfl⟩
    · go_wp2_with fail
      go_ret
      exact ⟨by simp; omega, rfl⟩
  · go_wp2_with fail
    go_ret
    exact ⟨by simp; omega, rfl⟩
def UsesPost (w : World) (l : List Int) (e : Ending) (w' : World) : Prop := ∃ v', e = .returned v' ∧ OwnI w' w.heap.size v' l ∧ w.grownBy w' none
set_option maxRecDepth 20000 in
theorem planUses_any (v : Value) (plan : List Node) (at_ : Nat) (w : World) (h : RN w v plan) (hv : planValid plan = true) (hat : at_ < plan.length) :
    Calls Tryz.prog 79 #[v, .int .i64 at_] w (UsesPost w ((graphL plan (2 * at_ + 2)).map (fun j : Nat => (j : Int)))) := by
  obtain ⟨A, n, c, rfl, -, hn, -⟩ := h.form'
  have hn10 : n ≤ 10 := by have := planValid_len hv; omega
  have hat' : at_ < n := by omega
  have Hn := Lib.hid hn
  have Hv := Lib.hid hv
  clear hn hv hat
  go_enter Tryz.func79, Tryz.ntmps79
  go_wp2_with fail
  refine (graphOf_all _ plan _ h).mono ?_
  rintro e w1 ⟨gv, rfl, hg1, hG⟩
  obtain ⟨B, R, G, hR0, hR⟩ := hG Hv.out
  clear hG
  rw [Hv.out]
  have hsz := hg1.size
  have hz : (R 0).2 = List.range n := by rw [hR 0, Hn.out]; exact graphTo_zero (Nat.le_refl _)
  rw [← Hn.out] at G
  obtain ⟨Ag, cg, hgv, -⟩ := G.form (a := 0) (by omega)
  rw [hz, List.length_range] at hgv
  obtain ⟨gg, rfl, c0⟩ := G.at0 hgv hz hat'
  rw [hR0] at hgv
  subst hgv
  obtain ⟨Au, cu, hu, hcu⟩ := G.form (a := 2 * at_ + 2) (by omega)
  have c1 := (G.blk at_ hat').cell 2
  have hm := G.len (2 * at_ + 2)
  have Hl : Hid ((R (2 * at_ + 2)).2 = graphL plan (2 * at_ + 2)) := hR _
  have hu2 : (R (2 * at_ + 2)).1 = .slice Au (R (2 * at_ + 2)).2.length cu := hu
  have c1' : w1.cell? ⟨B at_, 2, none⟩ = some (.slice Au (R (2 * at_ + 2)).2.length cu) := by rw [c1, hu2]; rfl
  have Hu : Hid ((R (2 * at_ + 2)).1 = .slice Au (R (2 * at_ + 2)).2.length cu) := hu
  have Hmem : Hid (∀ j ∈ (R (2 * at_ + 2)).2, j < n) := G.mem (2 * at_ + 2) (by omega)
  clear hu hu2 hcu c1 hR0 hR hz
  generalize hLL : (R (2 * at_ + 2)).2 = LL at *
  have HLL := Lib.hid hLL
  clear hLL
  go_wp2_with fail
  refine (isNode_b A n c at_ _ (b := true) (by simp; omega)).mono ?_
  rintro e w2 ⟨rfl, rfl⟩
  go_wp2_with fail
  go_loopw [7, 31] (fun s i wr => ∃ k : Nat, k ≤ LL.length ∧ i = .int .i64 k ∧ OwnI wr w.heap.size s ((LL.take k).map (fun j : Nat => (j : Int))) ∧ Gr wr w.heap.size n B R ∧ w.grownBy wr none) (fun _ i _ => LL.length - (intOf i).toNat)
  case atStart => exact ⟨0, Nat.zero_le _, rfl, OwnI.nil _ _, G, hg1⟩
  case round =>
    clear G hg1
    obtain ⟨k, hk, rfl, ho, G, hg⟩ := hrel
    by_cases hlt : k < LL.length
    · obtain ⟨Au', cu', hu', hcu'⟩ := G.form (a := 2 * at_ + 2) (by omega)
      obtain rfl : Au = Au' := by rw [Hu.out] at hu'; injection hu'
      rw [HLL.out] at hcu'
      obtain ⟨g, rfl, hcs⟩ := hcu' (by omega)
      obtain ⟨x, hx⟩ : ∃ x, LL[k]? = some x := ⟨_, List.getElem?_eq_getElem hlt⟩
      have hxn := Hmem.out x (List.mem_of_getElem? hx)
      have d0 := hcs k x hx
      have d1 : wr.cell? ⟨B x, 0, none⟩ = some (.int .i64 (x : Nat)) := (G.blk x hxn).cell 0
      have Hx := Lib.hid hx
      have Hcs := Lib.hid hcs
      have hlen : ((LL.take k).map (fun j : Nat => (j : Int))).length ≤ 1000 := by simp; omega
      clear hx hcs hu' hcu'
      go_wp2_with (at_builtin; go_must (refine wp_push_int (.tmp 35) (.tmp 40) rfl rfl ho (by omega) hg.size rfl rfl ?_))
      intro v' w5 hown5 hg5
      obtain ⟨A5, n5, c5, rfl⟩ := hown5.ri.val
      have G5 := G.grown hg5 (ho.notE (by decide)) (ho.notE (by decide))
      have hg6 := ho.gb hg hg5 (Nat.le_refl _)
      have hown6 : OwnI w5 w.heap.size (.slice A5 n5 c5) ((LL.take (k + 1)).map (fun j : Nat => (j : Int))) := by
        obtain ⟨hk', hx'⟩ := List.getElem?_eq_some_iff.1 Hx.out
        rw [List.take_succ_eq_append_getElem hk', List.map_append, hx']
        simpa [List.map_take] using hown5
      go_wp2_with fail
      go_roundw
      case rel => exact ⟨k + 1, by omega, by go_num, hown6, G5, hg6⟩
      case measure => simp [intOf]; omega
    · obtain rfl : k = LL.length := by omega
      rw [List.take_of_length_le (Nat.le_refl _)] at ho
      obtain ⟨A5, n5, c5, rfl⟩ := ho.ri.val
      go_wp2_with fail
      go_ret
      exact ⟨_, rfl, by rw [← Hl.out]; exact ho, hg⟩
end Go.Proofs.YtihobnheficpjaaGreat
namespace Go.Proofs.YtihobnheficpjaaGreat
open Go.RowKit

end Go.Proofs.YtihobnheficpjaaGreat
