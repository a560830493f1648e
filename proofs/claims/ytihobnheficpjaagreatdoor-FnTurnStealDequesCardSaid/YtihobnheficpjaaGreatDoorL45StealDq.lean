/- Walks: laws.FnTurnStealDeques. -/
import Derived.Test.YtihobnheficpjaaGreatDoorM35
namespace Go.Proofs.YtihobnheficpjaaGreatDoor
open Go.RowKit

set_option maxHeartbeats 3200000 in
set_option maxRecDepth 20000 in
theorem fnTurnStealDeques_any (w : World) (v : Value) (n : Nat) (h : Bytes w w.heap.size v n) (hn : n ≤ 9223372036854775807) (a : Addr) (hE : ErrTurn w a) :
    Calls Tryz.prog 7 #[v] w fun e w' => e = .returned (.bool true) ∧ w.grownBy w' none := by
  obtain ⟨A, c, rfl, h2⟩ := id h
  have H := Lib.hid h
  clear h h2
  by_cases hbig : 1048576 < n
  · go_enter Tryz.func7, Tryz.ntmps7
    go_wp2_with fail
    go_ret
    exact ⟨rfl, gb_refl _ _⟩
  go_enter Tryz.func7, Tryz.ntmps7
  go_wp2_with fail
  refine (drawTurnSteal_any _ _ n H.out (by omega)).mono ?_
  rintro e w1 ⟨pv, v1, wk, fz, plan, cc, rfl, hp1, hcv1, hs1, hdc, hg1⟩
  obtain ⟨P1, pn, pc, rfl, -, hpn, -⟩ := hp1.form'
  obtain ⟨X1, Xn1, Xc1, X2, Xn2, Xc2, X3, Xn3, Xc3, X4, Xn4, Xc4, rfl, -, -, -, -⟩ := hcv1.form
  have hfit : cc.deques.length ≤ 1048576 ∧ ∀ d ∈ cc.deques, d.length ≤ 1048576 := drawnFit hdc
  have Hfit := Lib.hid hfit
  have Hpl : Hid (plan.length ≤ 1000000000) := by have := hs1.1; show _ ≤ _; omega
  have Hpn := Lib.hid hpn
  have hX := hcv1.box
  have gX := World.grownBy_alloc w1 (.cells #[.slice X1 Xn1 Xc1, .slice X2 Xn2 Xc2, .slice X3 Xn3 Xc3, .slice X4 Xn4 Xc4] 27) none
  have hp2 := hp1.new gX
  have g2 := gb_trans hg1 gX
  clear hp1 hcv1 hs1 hdc hg1 gX hfit hpn
  go_upto_region 4 with fail
  generalize w1.alloc (.cells #[.slice X1 Xn1 Xc1, .slice X2 Xn2 Xc2, .slice X3 Xn3 Xc3, .slice X4 Xn4 Xc4] 27) = w2 at hX hp2 g2 ⊢
  generalize w1.heap.size = X at hX ⊢
  have x0 := hX.d0
  have x1 := hX.d1
  have x2 := hX.d2
  have x3 := hX.d3
  go_wp2_with fail
  refine (implTurnSteal_any _ _ plan cc wk fz a w2 (hE.new g2) hp2 hX.cv Hfit.out.2).mono ?_
  obtain ⟨R, hR⟩ : ∃ R, R = turnSteal plan cc wk fz := ⟨_, rfl⟩
  rw [← hR]
  have HR := Lib.hid hR
  clear hR
  rintro e w3 ⟨v3, rfl, hF3, hg3⟩
  obtain ⟨Y1, Yn1, Yc1, Y2, Yn2, Yc2, Y3, Yn3, Yc3, Y4, Yn4, Yc4, rfl⟩ := hF3.form
  have hY := hF3.cv.box
  have gY := World.grownBy_alloc w3 (.cells #[.slice Y1 Yn1 Yc1, .slice Y2 Yn2 Yc2, .slice Y3 Yn3 Yc3, .slice Y4 Yn4 Yc4] 27) none
  have hX4 := (hX.new hg3).new gY
  have hp4 := (hp2.new hg3).new gY
  have g4 := gb_trans (gb_trans g2 hg3) gY
  clear x0 x1 x2 x3 hX hp2 g2 hF3 hg3 gY
  go_upto_region 5 with fail
  generalize w3.alloc (.cells #[.slice Y1 Yn1 Yc1, .slice Y2 Yn2 Yc2, .slice Y3 Yn3 Yc3, .slice Y4 Yn4 Yc4] 27) = w4 at hX4 hp4 g4 hY ⊢
  generalize w3.heap.size = Y at hY ⊢
  have x0 := hX4.d0
  have x1 := hX4.d1
  have x2 := hX4.d2
  have x3 := hX4.d3
  go_wp2_with fail
  refine (specTurnSteal_any _ _ plan cc wk fz w4 hp4 hX4.cv Hpl.out Hfit.out).mono ?_
  rw [← HR.out]
  intro e w5 hT
  obtain ⟨v5, rfl, hcv5, hg5⟩ := hT.open_
  obtain ⟨Z1, Zn1, Zc1, Z2, Zn2, Zc2, Z3, Zn3, Zc3, Z4, Zn4, Zc4, rfl, -, -, -, -⟩ := hcv5.form
  have hZ := hcv5.box
  have gZ := World.grownBy_alloc w5 (.cells #[.slice Z1 Zn1 Zc1, .slice Z2 Zn2 Zc2, .slice Z3 Zn3 Zc3, .slice Z4 Zn4 Zc4] 27) none
  have hX6 := (hX4.new hg5).new gZ
  have hY6 := (hY.new hg5).new gZ
  have hp6 := (hp4.new hg5).new gZ
  have g6 := gb_trans (gb_trans g4 hg5) gZ
  clear x0 x1 x2 x3 hX4 hp4 g4 hg5 gZ hcv5 hT hY
  go_upto_region 6 with fail
  generalize w5.alloc (.cells #[.slice Z1 Zn1 Zc1, .slice Z2 Zn2 Zc2, .slice Z3 Zn3 Zc3, .slice Z4 Zn4 Zc4] 27) = w6 at hX6 hp6 g6 hY6 hZ ⊢
  generalize w5.heap.size = Z at hZ ⊢
  have y0 := hY6.d0
  have y1 := hY6.d1
  have y2 := hY6.d2
  have y3 := hY6.d3
  have z0 := hZ.d0
  have z1 := hZ.d1
  have z2 := hZ.d2
  have z3 := hZ.d3
  cases R with
  | none =>
    go_wp2_with fail
    refine (sameCrew_any _ _ _ w6 hY6.cv hZ.cv).mono ?_
    rintro e w7 ⟨rfl, hg7⟩
    have hY7 := hY6.new hg7
    have hZ7 := hZ.new hg7
    have g7 := gb_trans g6 hg7
    clear y0 y1 y2 y3 z0 z1 z2 z3 hY6 hZ hX6 hp6 g6 hg7
    have y0 := hY7.d0
    have y1 := hY7.d1
    have y2 := hY7.d2
    have y3 := hY7.d3
    have z0 := hZ7.d0
    have z1 := hZ7.d1
    have z2 := hZ7.d2
    have z3 := hZ7.d3
    go_wp2_with fail
    refine (sameCrew_any _ _ _ w7 hY7.cv hZ7.cv).mono ?_
    rintro e w8 ⟨rfl, hg8⟩
    go_wp2_with fail
    go_ret
    exact ⟨rfl, gb_trans g7 hg8⟩
  | some c' =>
    go_wp2_with fail
    refine (sameCrew_any _ _ _ w6 hY6.cv hZ.cv).mono ?_
    rintro e w7 ⟨rfl, hg7⟩
    have hX7 := hX6.new hg7
    have hY7 := hY6.new hg7
    have hp7 := hp6.new hg7
    have g7 := gb_trans g6 hg7
    have hE7 := hE.new g7
    change BoxC w7 Y _ _ _ _ c' at hY7
    clear y0 y1 y2 y3 z0 z1 z2 z3 hY6 hZ hX6 hp6 g6 hg7
    obtain ⟨Hok, k, m, r, x, rfl, rfl, hk, hm, hkm, hdk, hdm, hxr, hc', Hok'⟩ := turnSteal_some HR.out.symm
    have hdq : c'.deques = (cc.deques.set m r).set k (newReady plan cc.counts x) := by rw [hc']; exact doNode_deques2 hkm hdk
    have hcd : Hid (countsDone plan cc.counts x = some (takeCounts plan cc.counts x, newReady plan cc.counts x)) := Hok.done hxr
    have hk1 : k < Xn1 := by rw [hX7.dq.len]; exact hk
    have hm1 : m < Xn1 := by rw [hX7.dq.len]; exact hm
    have hYX : Yn1 = Xn1 := by rw [hY7.dq.len, hX7.dq.len, hdq, List.length_set, List.length_set]
    subst hYX
    obtain ⟨g2, o2, d2, Bm, mm, em, rfl, hd2, p0, hrm, hmm, hmc, -⟩ := hX7.dq.at_ hm1
    obtain rfl : x :: r = d2 := Option.some.inj (hdm.symm.trans hd2)
    obtain ⟨gd, od, y', rfl, hy', cd⟩ := hrm.at_ (k := 0) (by rw [hmm]; simp)
    obtain rfl : x = y' := Option.some.inj hy'
    rw [Nat.add_zero] at cd
    obtain ⟨g3, o3, d3, Bk, mk, ek, rfl, hd3, q0, hrk, -, -, -⟩ := hY7.dq.at_ hk1
    obtain rfl : newReady plan cc.counts x = d3 := by
      rw [hdq, List.getElem?_set_self (by rw [List.length_set]; exact hk)] at hd3
      exact Option.some.inj hd3
    obtain ⟨g4, o4, d4, Bn, mn, en, eA, hd4, s0, hrn, -, -, -⟩ := hY7.dq.at_ hm1
    injection eA with eA
    injection eA with eg eo
    subst eg eo
    obtain rfl : r = d4 := by
      rw [hdq, List.getElem?_set_ne hkm, List.getElem?_set_self hm] at hd4
      exact Option.some.inj hd4
    have hmm1 : 1 ≤ mm := by rw [hmm]; simp
    obtain ⟨ox, hox, hD⟩ := hrm.tail hmm1
    rw [List.drop_one, List.tail_cons] at hD
    have hki : (k : Int) < (Yn1 : Int) := by omega
    have hmi : (m : Int) < (Yn1 : Int) := by omega
    have hm0 : (0 : Int) < (mm : Int) := by omega
    have hm0n : 0 < mm := by omega
    have hm1i : (1 : Int) ≤ (mm : Int) := by omega
    have hmci : (mm : Int) ≤ (em : Int) := by omega
    have x0 := hX7.d0
    have x1 := hX7.d1
    have y0 := hY7.d0
    clear hdk hdm hd2 hd3 hd4 hc' hk hm hkm hxr hdq Hok Hok' hy' hmm hmc
    go_wp2_with fail
    go_region_held3 (fun w' => w'.cell? ⟨X, 1, none⟩ = some (.slice X2 Xn2 Xc2) ∧ w'.cell? ⟨X, 0, none⟩ = some (.slice (some ⟨g2, o2, none⟩) Yn1 Xc1) ∧ w'.cell? ⟨g2, o2 + m, none⟩ = some (.slice (some ⟨gd, od, none⟩) mm em) ∧ w'.cell? ⟨gd, od, none⟩ = some (.int .i64 x)) (go_keep) (first
      | (go_at_call 22; refine (implCountsDone_any _ _ plan cc.counts x _ (by first | exact hp7 | exact hp7.new (gb_drew (gb_refl _ none))) (by first | exact hX7.ct | exact (hX7.new (gb_drew (gb_refl _ none))).ct)).mono ?_; intro e w8 hO; rw [hcd.out] at hO; obtain ⟨kv, rv, rfl, o8, p8, hg8⟩ := hO; obtain ⟨K1, K2, K3, rfl⟩ := o8.ri.val; obtain ⟨R1, R2, R3, rfl⟩ := p8.ri.val; have hg8' : w7.grownBy w8 none := (by first | exact hg8 | exact gb_trans (gb_drew (gb_refl _ none)) hg8); have k0 := cell_new x1 hg8'; have k1 := cell_new x0 hg8'; have k2 := cell_new p0 hg8'; have k3 := cell_new cd hg8'))
    have z0 := cell_new y0 hg8'
    have z1 := cell_new s0 hg8'
    have z2 := cell_new q0 hg8'
    have z3 := cell_new x0 hg8'
    have z4 := cell_new p0 hg8'
    have r8 := p8.ri
    have n8 := hrn.new hg8'
    have k8 := hrk.new hg8'
    have d8 := hD.new hg8'
    clear o8 p8 hg8
    go_wp2_with fail
    go_region_held3 (fun w' => w'.cell? ⟨Y, 0, none⟩ = some (.slice (some ⟨g3, o3, none⟩) Yn1 Yc1) ∧ w'.cell? ⟨g3, o3 + m, none⟩ = some (.slice Bn mn en) ∧ w'.cell? ⟨g3, o3 + k, none⟩ = some (.slice Bk mk ek) ∧ w'.cell? ⟨X, 0, none⟩ = some (.slice (some ⟨g2, o2, none⟩) Yn1 Xc1) ∧ w'.cell? ⟨g2, o2 + m, none⟩ = some (.slice (some ⟨gd, od, none⟩) mm em)) (go_keep) (first
      | (go_at_call 21; refine (sameRow_b _ _ (newReady plan cc.counts x) (newReady plan cc.counts x) _ (by first | exact k8.new hg9' | exact (k8.new hg9').new (gb_drew (gb_refl _ none))) (by first | exact r8.new hg9' | exact (r8.new hg9').new (gb_drew (gb_refl _ none))) (c := true) (decide_eq_true rfl)).mono ?_; rintro e w10 ⟨rfl, hg10⟩; have hg10' : w8.grownBy w10 none := (by first | exact gb_trans hg9' hg10 | exact gb_trans (gb_trans hg9' (gb_drew (gb_refl _ none))) hg10); have k0 := cell_new z0 hg10'; have k1 := cell_new z1 hg10'; have k2 := cell_new z2 hg10'; have k3 := cell_new z3 hg10'; have k4 := cell_new z4 hg10')
      | (go_at_call 21; refine (sameRow_b _ _ r r _ (by first | exact n8 | exact n8.new (gb_drew (gb_refl _ none))) (by first | exact d8 | exact d8.new (gb_drew (gb_refl _ none))) (c := true) (decide_eq_true rfl)).mono ?_; rintro e w9 ⟨rfl, hg9⟩; have hg9' : w8.grownBy w9 none := (by first | exact hg9 | exact gb_trans (gb_drew (gb_refl _ none)) hg9); have k0 := cell_new z0 hg9'; have k1 := cell_new z1 hg9'; have k2 := cell_new z2 hg9'; have k3 := cell_new z3 hg9'; have k4 := cell_new z4 hg9'))
    all_goals go_wp2_with fail
    all_goals go_ret
    all_goals exact ⟨rfl, gb_trans g7 (gb_trans hg8' (by first | exact hg10' | exact gb_drew hg10'))⟩
end Go.Proofs.YtihobnheficpjaaGreatDoor
