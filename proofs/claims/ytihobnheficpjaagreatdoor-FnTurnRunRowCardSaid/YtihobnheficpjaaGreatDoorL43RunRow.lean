/- Walks: laws.FnTurnRunRow. -/
import Derived.Test.YtihobnheficpjaaGreatDoorM35
namespace Go.Proofs.YtihobnheficpjaaGreatDoor
open Go.RowKit

set_option maxHeartbeats 3200000 in
set_option maxRecDepth 20000 in
theorem fnTurnRunRow_any (w : World) (v : Value) (n : Nat) (h : Bytes w w.heap.size v n) (hn : n ≤ 9223372036854775807) (a : Addr) (hE : ErrTurn w a) :
    Calls Tryz.prog 5 #[v] w fun e w' => e = .returned (.bool true) ∧ w.grownBy w' none := by
  obtain ⟨A, c, rfl, h2⟩ := id h
  have H := Lib.hid h
  clear h h2
  by_cases hbig : 1048576 < n
  · go_enter Tryz.func5, Tryz.ntmps5
    go_wp2_with fail
    go_ret
    exact ⟨rfl, gb_refl _ _⟩
  go_enter Tryz.func5, Tryz.ntmps5
  go_wp2_with fail
  refine (drawTurnRun_any _ _ n H.out (by omega)).mono ?_
  rintro e w1 ⟨pv, v1, wk, plan, cc, rfl, hp1, hcv1, hs1, hdc, hg1⟩
  obtain ⟨P1, pn, pc, rfl, -, hpn, -⟩ := hp1.form'
  obtain ⟨X1, Xn1, Xc1, X2, Xn2, Xc2, X3, Xn3, Xc3, X4, Xn4, Xc4, rfl, -, -, -, -⟩ := hcv1.form
  have hfit : cc.deques.length ≤ 1048576 ∧ ∀ d ∈ cc.deques, d.length ≤ 1048576 := drawnFit hdc
  have Hfit := Lib.hid hfit
  have Hpl : Hid (plan.length ≤ 1000000000) := by have := hs1.1; show _ ≤ _; omega
  have Hpn := Lib.hid hpn
  have hX := hcv1.box
  have gX := World.grownBy_alloc w1 (.cells #[.slice X1 Xn1 Xc1, .slice X2 Xn2 Xc2, .slice X3 Xn3 Xc3, .slice X4 Xn4 Xc4] 27) none
  have hp2 := hp1.new gX
  have g2 := gb_trans hg1 gX
  clear hp1 hcv1 hs1 hdc hg1 gX hfit hpn
  go_upto_region 4 with fail
  generalize w1.alloc (.cells #[.slice X1 Xn1 Xc1, .slice X2 Xn2 Xc2, .slice X3 Xn3 Xc3, .slice X4 Xn4 Xc4] 27) = w2 at hX hp2 g2 ⊢
  generalize w1.heap.size = X at hX ⊢
  have x0 := hX.d0
  have x1 := hX.d1
  have x2 := hX.d2
  have x3 := hX.d3
  go_wp2_with fail
  refine (implTurnRun_any _ _ plan cc wk a w2 (hE.new g2) hp2 hX.cv Hfit.out.2).mono ?_
  obtain ⟨R, hR⟩ : ∃ R, R = turnRun plan cc wk := ⟨_, rfl⟩
  rw [← hR]
  have HR := Lib.hid hR
  clear hR
  rintro e w3 ⟨v3, rfl, hF3, hg3⟩
  obtain ⟨Y1, Yn1, Yc1, Y2, Yn2, Yc2, Y3, Yn3, Yc3, Y4, Yn4, Yc4, rfl⟩ := hF3.form
  have hY := hF3.cv.box
  have gY := World.grownBy_alloc w3 (.cells #[.slice Y1 Yn1 Yc1, .slice Y2 Yn2 Yc2, .slice Y3 Yn3 Yc3, .slice Y4 Yn4 Yc4] 27) none
  have hX4 := (hX.new hg3).new gY
  have hp4 := (hp2.new hg3).new gY
  have g4 := gb_trans (gb_trans g2 hg3) gY
  clear x0 x1 x2 x3 hX hp2 g2 hF3 hg3 gY
  go_upto_region 5 with fail
  generalize w3.alloc (.cells #[.slice Y1 Yn1 Yc1, .slice Y2 Yn2 Yc2, .slice Y3 Yn3 Yc3, .slice Y4 Yn4 Yc4] 27) = w4 at hX4 hp4 g4 hY ⊢
  generalize w3.heap.size = Y at hY ⊢
  have x0 := hX4.d0
  have x1 := hX4.d1
  have x2 := hX4.d2
  have x3 := hX4.d3
  go_wp2_with fail
  refine (specTurnRun_any _ _ plan cc wk w4 hp4 hX4.cv Hpl.out Hfit.out).mono ?_
  rw [← HR.out]
  intro e w5 hT
  obtain ⟨v5, rfl, hcv5, hg5⟩ := hT.open_
  obtain ⟨Z1, Zn1, Zc1, Z2, Zn2, Zc2, Z3, Zn3, Zc3, Z4, Zn4, Zc4, rfl, -, -, -, -⟩ := hcv5.form
  have hZ := hcv5.box
  have gZ := World.grownBy_alloc w5 (.cells #[.slice Z1 Zn1 Zc1, .slice Z2 Zn2 Zc2, .slice Z3 Zn3 Zc3, .slice Z4 Zn4 Zc4] 27) none
  have hX6 := (hX4.new hg5).new gZ
  have hY6 := (hY.new hg5).new gZ
  have hp6 := (hp4.new hg5).new gZ
  have g6 := gb_trans (gb_trans g4 hg5) gZ
  clear x0 x1 x2 x3 hX4 hp4 g4 hg5 gZ hcv5 hT hY
  go_upto_region 6 with fail
  generalize w5.alloc (.cells #[.slice Z1 Zn1 Zc1, .slice Z2 Zn2 Zc2, .slice Z3 Zn3 Zc3, .slice Z4 Zn4 Zc4] 27) = w6 at hX6 hp6 g6 hY6 hZ ⊢
  generalize w5.heap.size = Z at hZ ⊢
  have y0 := hY6.d0
  have y1 := hY6.d1
  have y2 := hY6.d2
  have y3 := hY6.d3
  have z0 := hZ.d0
  have z1 := hZ.d1
  have z2 := hZ.d2
  have z3 := hZ.d3
  cases R with
  | none =>
    go_wp2_with fail
    refine (sameCrew_any _ _ _ w6 hY6.cv hZ.cv).mono ?_
    rintro e w7 ⟨rfl, hg7⟩
    have hY7 := hY6.new hg7
    have hZ7 := hZ.new hg7
    have g7 := gb_trans g6 hg7
    clear y0 y1 y2 y3 z0 z1 z2 z3 hY6 hZ hX6 hp6 g6 hg7
    have y0 := hY7.d0
    have y1 := hY7.d1
    have y2 := hY7.d2
    have y3 := hY7.d3
    have z0 := hZ7.d0
    have z1 := hZ7.d1
    have z2 := hZ7.d2
    have z3 := hZ7.d3
    go_wp2_with fail
    refine (sameCrew_any _ _ _ w7 hY7.cv hZ7.cv).mono ?_
    rintro e w8 ⟨rfl, hg8⟩
    go_wp2_with fail
    go_ret
    exact ⟨rfl, gb_trans g7 hg8⟩
  | some c' =>
    go_wp2_with fail
    refine (sameCrew_any _ _ _ w6 hY6.cv hZ.cv).mono ?_
    rintro e w7 ⟨rfl, hg7⟩
    have hX7 := hX6.new hg7
    have hY7 := hY6.new hg7
    have hp7 := hp6.new hg7
    have g7 := gb_trans g6 hg7
    have hE7 := hE.new g7
    change BoxC w7 Y _ _ _ _ c' at hY7
    clear y0 y1 y2 y3 z0 z1 z2 z3 hY6 hZ hX6 hp6 g6 hg7
    obtain ⟨Hok, k, r, x, rfl, hk, hd, hxr, hc', Hok'⟩ := turnRun_some HR.out.symm
    have hdone : c'.done = cc.done ++ [x] := by rw [hc']; rfl
    obtain ⟨m, hmp, rfl, -⟩ := (mem_readyOf Hok.pv).1 hxr
    have hrw : c'.rows = cc.rows.set m (valAt plan m) := by rw [hc']; unfold doNode; simp
    have hd10 : Xn3 ≤ 10 := by have := done_le Hok; have := planValid_len Hok.pv; have := hX7.dn.len; omega
    have hp10 : plan.length ≤ 10 := planValid_len Hok.pv
    have hX4 : Xn4 = plan.length := by rw [hX7.ro.len]; exact Hok.rl
    have hY4 : Yn4 = plan.length := by rw [hY7.ro.len, hrw, List.length_set]; exact Hok.rl
    have hpn : pn = plan.length := Hpn.out
    obtain ⟨N, hN⟩ : ∃ N, N = plan.length := ⟨_, rfl⟩
    rw [← hN] at hX4 hY4 hpn hmp hp10
    obtain rfl : N = Xn4 := hX4.symm
    obtain rfl : N = Yn4 := hY4.symm
    obtain rfl : N = pn := hpn.symm
    have hY3 : Yn3 = Xn3 + 1 := by rw [hY7.dn.len, hX7.dn.len, hdone]; simp
    obtain ⟨gy, oy, y, rfl, hy, cy⟩ := hY7.dn.at_ (k := Xn3) (by rw [hY3]; omega)
    obtain rfl : (m : Int) = y := by
      rw [hdone, hX7.dn.len, List.getElem?_append_right (Nat.le_refl _), Nat.sub_self] at hy
      exact Option.some.inj hy
    have Hoth : Hid (∀ j, j ≠ m → c'.rows[j]? = cc.rows[j]?) := fun j hj => by rw [hrw, List.getElem?_set_ne (fun e => hj e.symm)]
    obtain ⟨g3, o3, d3, Bk, mk, ek, rfl, hd3, s0, hrk, -, -, -⟩ := hY7.ro.at_ hmp
    obtain rfl : valAt plan m = d3 := by
      rw [hrw, List.getElem?_set_self (by rw [Hok.rl, ← hN]; exact hmp)] at hd3
      exact Option.some.inj hd3
    have hw2 : IntKind.i64.wrap ((Yn3 : Int) - 1) = (Xn3 : Int) := by rw [IntWalk.i64_in _ (by omega)]; omega
    have hb2 : (Xn3 : Int) < (Yn3 : Int) := by omega
    have hmi : (m : Int) < (N : Int) := by omega
    have y2 := hY7.d2
    have Hpv := Lib.hid Hok.pv
    have HN := Lib.hid hN
    clear hd hd3 hc' hk hxr hdone hrw Hok Hok' hy hY3 hN
    go_wp2_with fail
    refine (valueOf_any _ plan m w7 hp7 Hpv.out (by rw [← HN.out]; exact hmp)).mono ?_
    rintro e w8 ⟨rv, rfl, o8, hg8⟩
    obtain ⟨R1, R2, R3, rfl⟩ := o8.ri.val
    have hX8 := hX7.new hg8
    have hY8 := hY7.new hg8
    have g8 := gb_trans g7 hg8
    have z0 := cell_new s0 hg8
    have r8 := o8.ri
    have k8 := hrk.new hg8
    clear y2 cy s0 hX7 hY7 hp7 o8 hg8 hrk
    go_wp2_with fail
    go_loopg [13] (N + 1) (fun mm i wr => ∃ q : Nat, q ≤ N ∧ mm = N + 1 - q ∧ i = .int .i64 q ∧ w8.grownBy wr none)
    case atStart => exact ⟨0, Nat.zero_le _, rfl, rfl, gb_refl _ _⟩
    case round =>
      obtain ⟨q, hq, rfl, rfl, hgr⟩ := hrel
      by_cases hlt : q < N
      · have hqi : (q : Int) < (N : Int) := by omega
        by_cases hqk : q = m
        · obtain rfl : m = q := hqk.symm
          have hb : ((m : Int) != (m : Int)) = false := by simp
          have hbe : ((m : Int) == (m : Int)) = true := by simp
          have x3 := (hX8.new hgr).d3
          go_wp2_with fail
          go_quiet (fail)
          all_goals go_wp2_with fail
          all_goals go_roundg (N + 1 - (m + 1))
          all_goals first
            | (exact ⟨m + 1, by omega, rfl, by go_num, by first | exact gb_drewN hgr _ | exact hgr⟩)
            | omega
        · have hb : ((q : Int) != (m : Int)) = true := by simp; omega
          have hbe : ((q : Int) == (m : Int)) = false := by simp; omega
          have hXr := hX8.new hgr
          have hYr := hY8.new hgr
          obtain ⟨gx, ox, dx, Bx, mx, ex, rfl, hdx, u0, hrx, -, -, -⟩ := hXr.ro.at_ hlt
          obtain ⟨gy', oy', dy, By, my, ey, eA, hdy, v0, hry, -, -, -⟩ := hYr.ro.at_ hlt
          injection eA with eA
          injection eA with eg eo
          subst eg eo
          obtain rfl : dx = dy := Option.some.inj (hdx.symm.trans ((Hoth.out q hqk).symm.trans hdy))
          have y3 := hYr.d3
          have x3 := hXr.d3
          clear hdx hdy hXr hYr
          go_wp2_with fail
          go_region_held3 (fun w' => w'.cell? ⟨Y, 3, none⟩ = some (.slice (some ⟨g3, o3, none⟩) N Yc4) ∧ w'.cell? ⟨g3, o3 + q, none⟩ = some (.slice By my ey) ∧ w'.cell? ⟨X, 3, none⟩ = some (.slice (some ⟨gx, ox, none⟩) N Xc4) ∧ w'.cell? ⟨gx, ox + q, none⟩ = some (.slice Bx mx ex)) (go_keep) (first
            | (go_at_call 21; refine (sameRow_b _ _ dx dx _ (by first | exact hry | exact hry.new (gb_drew (gb_refl _ none))) (by first | exact hrx | exact hrx.new (gb_drew (gb_refl _ none))) (c := true) (decide_eq_true rfl)).mono ?_; rintro e w9 ⟨rfl, hg9⟩; have hg9' : wr.grownBy w9 none := (by first | exact hg9 | exact gb_trans (gb_drew (gb_refl _ none)) hg9); have k0 := cell_new y3 hg9'; have k1 := cell_new v0 hg9'; have k2 := cell_new x3 hg9'; have k3 := cell_new u0 hg9'))
          all_goals go_wp2_with fail
          all_goals go_roundg (N + 1 - (q + 1))
          all_goals first
            | (exact ⟨q + 1, by omega, rfl, by go_num, gb_trans hgr (by first | exact hg9' | exact gb_drew hg9')⟩)
            | omega
      · obtain rfl : N = q := by omega
        have y3 := (hY8.new hgr).d3
        have v0 := cell_new z0 hgr
        have rR := r8.new hgr
        have rK := k8.new hgr
        clear z0 r8 k8 hX8 hY8
        go_wp2_with fail
        refine (sameRow_b _ _ (valAt plan m) (valAt plan m) wr rK rR (c := true) (decide_eq_true rfl)).mono ?_
        rintro e w9 ⟨rfl, hg9⟩
        go_wp2_with fail
        go_ret
        exact ⟨rfl, gb_trans g8 (gb_trans hgr hg9)⟩
end Go.Proofs.YtihobnheficpjaaGreatDoor
