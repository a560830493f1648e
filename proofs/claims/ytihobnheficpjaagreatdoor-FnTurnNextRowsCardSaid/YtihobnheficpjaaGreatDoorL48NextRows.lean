/- Walks: laws.FnTurnNextRows. -/
import Derived.Test.YtihobnheficpjaaGreatDoorM35
namespace Go.Proofs.YtihobnheficpjaaGreatDoor
open Go.RowKit

set_option maxHeartbeats 3200000 in
set_option maxRecDepth 20000 in
theorem fnTurnNextRows_any (w : World) (v : Value) (n : Nat) (h : Bytes w w.heap.size v n) (hn : n ≤ 9223372036854775807) (a : Addr) (hE : ErrTurn w a) :
    Calls Tryz.prog 10 #[v] w fun e w' => e = .returned (.bool true) ∧ w.grownBy w' none := by
  obtain ⟨A, c, rfl, h2⟩ := id h
  have H := Lib.hid h
  clear h h2
  by_cases hbig : 1048576 < n
  · go_enter Tryz.func10, Tryz.ntmps10
    go_wp2_with fail
    go_ret
    exact ⟨rfl, gb_refl _ _⟩
  go_enter Tryz.func10, Tryz.ntmps10
  go_wp2_with fail
  refine (drawDrawTurnNext_any _ _ n H.out (by omega)).mono ?_
  rintro e w1 ⟨pv, v1, wk, plan, cc, rfl, hp1, hcv1, hs1, hdc, hg1⟩
  obtain ⟨P1, pn, pc, rfl, -, hpn, -⟩ := hp1.form'
  obtain ⟨X1, Xn1, Xc1, X2, Xn2, Xc2, X3, Xn3, Xc3, X4, Xn4, Xc4, rfl, -, -, -, -⟩ := hcv1.form
  have hfit : cc.deques.length ≤ 1048576 ∧ ∀ d ∈ cc.deques, d.length ≤ 1048576 := drawnFit hdc
  have Hfit := Lib.hid hfit
  have Hpl : Hid (plan.length ≤ 1000000000) := by have := hs1.1; show _ ≤ _; omega
  have Hpn := Lib.hid hpn
  have hX := hcv1.box
  have gX := World.grownBy_alloc w1 (.cells #[.slice X1 Xn1 Xc1, .slice X2 Xn2 Xc2, .slice X3 Xn3 Xc3, .slice X4 Xn4 Xc4] 27) none
  have hp2 := hp1.new gX
  have g2 := gb_trans hg1 gX
  clear hp1 hcv1 hs1 hdc hg1 gX hfit hpn
  go_upto_region 4 with fail
  generalize w1.alloc (.cells #[.slice X1 Xn1 Xc1, .slice X2 Xn2 Xc2, .slice X3 Xn3 Xc3, .slice X4 Xn4 Xc4] 27) = w2 at hX hp2 g2 ⊢
  generalize w1.heap.size = X at hX ⊢
  have x0 := hX.d0
  have x1 := hX.d1
  have x2 := hX.d2
  have x3 := hX.d3
  go_wp2_with fail
  refine (implTurnNext_any _ _ plan cc wk a w2 (hE.new g2) hp2 hX.cv Hfit.out.2).mono ?_
  obtain ⟨R, hR⟩ : ∃ R, R = turnNext plan cc wk := ⟨_, rfl⟩
  rw [← hR]
  have HR := Lib.hid hR
  clear hR
  rintro e w3 ⟨v3, rfl, hF3, hg3⟩
  obtain ⟨Y1, Yn1, Yc1, Y2, Yn2, Yc2, Y3, Yn3, Yc3, Y4, Yn4, Yc4, rfl⟩ := hF3.form
  have hY := hF3.cv.box
  have gY := World.grownBy_alloc w3 (.cells #[.slice Y1 Yn1 Yc1, .slice Y2 Yn2 Yc2, .slice Y3 Yn3 Yc3, .slice Y4 Yn4 Yc4] 27) none
  have hX4 := (hX.new hg3).new gY
  have hp4 := (hp2.new hg3).new gY
  have g4 := gb_trans (gb_trans g2 hg3) gY
  clear x0 x1 x2 x3 hX hp2 g2 hF3 hg3 gY
  go_upto_region 5 with fail
  generalize w3.alloc (.cells #[.slice Y1 Yn1 Yc1, .slice Y2 Yn2 Yc2, .slice Y3 Yn3 Yc3, .slice Y4 Yn4 Yc4] 27) = w4 at hX4 hp4 g4 hY ⊢
  generalize w3.heap.size = Y at hY ⊢
  have x0 := hX4.d0
  have x1 := hX4.d1
  have x2 := hX4.d2
  have x3 := hX4.d3
  go_wp2_with fail
  refine (specTurnNext_any _ _ plan cc wk w4 hp4 hX4.cv Hpl.out Hfit.out).mono ?_
  rw [← HR.out]
  intro e w5 hT
  obtain ⟨v5, rfl, hcv5, hg5⟩ := hT.open_
  obtain ⟨Z1, Zn1, Zc1, Z2, Zn2, Zc2, Z3, Zn3, Zc3, Z4, Zn4, Zc4, rfl, -, -, -, -⟩ := hcv5.form
  have hZ := hcv5.box
  have gZ := World.grownBy_alloc w5 (.cells #[.slice Z1 Zn1 Zc1, .slice Z2 Zn2 Zc2, .slice Z3 Zn3 Zc3, .slice Z4 Zn4 Zc4] 27) none
  have hX6 := (hX4.new hg5).new gZ
  have hY6 := (hY.new hg5).new gZ
  have hp6 := (hp4.new hg5).new gZ
  have g6 := gb_trans (gb_trans g4 hg5) gZ
  clear x0 x1 x2 x3 hX4 hp4 g4 hg5 gZ hcv5 hT hY
  go_upto_region 6 with fail
  generalize w5.alloc (.cells #[.slice Z1 Zn1 Zc1, .slice Z2 Zn2 Zc2, .slice Z3 Zn3 Zc3, .slice Z4 Zn4 Zc4] 27) = w6 at hX6 hp6 g6 hY6 hZ ⊢
  generalize w5.heap.size = Z at hZ ⊢
  have y0 := hY6.d0
  have y1 := hY6.d1
  have y2 := hY6.d2
  have y3 := hY6.d3
  have z0 := hZ.d0
  have z1 := hZ.d1
  have z2 := hZ.d2
  have z3 := hZ.d3
  cases R with
  | none =>
    go_wp2_with fail
    refine (sameCrew_any _ _ _ w6 hY6.cv hZ.cv).mono ?_
    rintro e w7 ⟨rfl, hg7⟩
    have hY7 := hY6.new hg7
    have hZ7 := hZ.new hg7
    have g7 := gb_trans g6 hg7
    clear y0 y1 y2 y3 z0 z1 z2 z3 hY6 hZ hX6 hp6 g6 hg7
    have y0 := hY7.d0
    have y1 := hY7.d1
    have y2 := hY7.d2
    have y3 := hY7.d3
    have z0 := hZ7.d0
    have z1 := hZ7.d1
    have z2 := hZ7.d2
    have z3 := hZ7.d3
    go_wp2_with fail
    refine (sameCrew_any _ _ _ w7 hY7.cv hZ7.cv).mono ?_
    rintro e w8 ⟨rfl, hg8⟩
    go_wp2_with fail
    go_ret
    exact ⟨rfl, gb_trans g7 hg8⟩
  | some c' =>
    go_wp2_with fail
    refine (sameCrew_any _ _ _ w6 hY6.cv hZ.cv).mono ?_
    rintro e w7 ⟨rfl, hg7⟩
    have hX7 := hX6.new hg7
    have hY7 := hY6.new hg7
    have hp7 := hp6.new hg7
    have g7 := gb_trans g6 hg7
    have hE7 := hE.new g7
    change BoxC w7 Y _ _ _ _ c' at hY7
    clear y0 y1 y2 y3 z0 z1 z2 z3 hY6 hZ hX6 hp6 g6 hg7
    obtain ⟨Hok, Hok', -, x, hxr, hdone, hrw⟩ := turnNext_some HR.out.symm
    have hxD : x ∉ cc.done := by
      obtain ⟨m, -, rfl, h, -⟩ := (mem_readyOf Hok.pv).1 hxr
      exact h
    have hx0 : 0 ≤ x := by
      obtain ⟨m, -, rfl, h, -⟩ := (mem_readyOf Hok.pv).1 hxr
      omega
    have hd10 : Xn3 ≤ 10 := by have := done_le Hok; have := planValid_len Hok.pv; have := hX7.dn.len; omega
    have hX4 : Xn4 = plan.length := by rw [hX7.ro.len]; exact Hok.rl
    have hY4 : Yn4 = plan.length := by rw [hY7.ro.len]; exact Hok'.rl
    have hY3 : Yn3 = Xn3 + 1 := by rw [hY7.dn.len, hX7.dn.len, hdone]; simp
    have Hoth : Hid (∀ (i : Nat) (y : Int), cc.done[i]? = some y → ∃ j : Nat, y = j ∧ j < plan.length ∧ c'.done[i]? = some y ∧ c'.rows[j]? = cc.rows[j]?) := fun i y hy => by
      have hm := List.mem_of_getElem? hy
      obtain ⟨h0, h1, -⟩ := order_closed Hok.order hm
      refine ⟨y.toNat, by omega, by omega, ?_, ?_⟩
      · rw [hdone, List.getElem?_append_left (List.getElem?_eq_some_iff.1 hy).1]
        exact hy
      · rw [hrw, List.getElem?_set_ne (fun e => hxD (by have : x = y := by omega
                                                        rw [this]; exact hm))]
    clear Hok Hok' hxr hdone hrw hxD hx0
    go_wp2_with fail
    go_loopg [10] (Xn3 + 1) (fun mm i wr => ∃ q : Nat, q ≤ Xn3 ∧ mm = Xn3 + 1 - q ∧ i = .int .i64 q ∧ w7.grownBy wr none)
    case atStart => exact ⟨0, Nat.zero_le _, rfl, rfl, gb_refl _ _⟩
    case round =>
      obtain ⟨q, hq, rfl, rfl, hgr⟩ := hrel
      have hXr := hX7.new hgr
      have hYr := hY7.new hgr
      have x2 := hXr.d2
      by_cases hlt : q < Xn3
      · obtain ⟨gx, ox, y, rfl, hy, cx⟩ := hXr.dn.at_ hlt
        obtain ⟨j, rfl, hj, hy', hrow⟩ := Hoth.out q y hy
        obtain ⟨gy, oy, y2', rfl, hy2, cy⟩ := hYr.dn.at_ (k := q) (by omega)
        obtain rfl : (j : Int) = y2' := Option.some.inj (hy'.symm.trans hy2)
        obtain ⟨g4, o4, d4, B4, m4, e4, rfl, hd4, u0, hr4, -, -, -⟩ := hXr.ro.at_ (k := j) (by omega)
        obtain ⟨g5, o5, d5, B5, m5, e5, rfl, hd5, v0, hr5, -, -, -⟩ := hYr.ro.at_ (k := j) (by omega)
        obtain rfl : d5 = d4 := Option.some.inj (hd5.symm.trans (hrow.trans hd4))
        have hqi : (q : Int) < (Xn3 : Int) := by omega
        have hqi2 : (q : Int) < (Yn3 : Int) := by omega
        have hji : (j : Int) < (Xn4 : Int) := by omega
        have hji2 : (j : Int) < (Yn4 : Int) := by omega
        have x3 := hXr.d3
        have y2 := hYr.d2
        have y3 := hYr.d3
        clear hy hy' hy2 hrow hd4 hd5 hXr hYr hX4 hY4 hY3
        go_wp2_with fail
        go_region_held3 (fun w' => w'.cell? ⟨Y, 3, none⟩ = some (.slice (some ⟨g5, o5, none⟩) Yn4 Yc4) ∧ w'.cell? ⟨X, 2, none⟩ = some (.slice (some ⟨gx, ox, none⟩) Xn3 Xc3) ∧ w'.cell? ⟨gx, ox + q, none⟩ = some (.int .i64 j) ∧ w'.cell? ⟨g5, o5 + j, none⟩ = some (.slice B5 m5 e5) ∧ w'.cell? ⟨X, 3, none⟩ = some (.slice (some ⟨g4, o4, none⟩) Xn4 Xc4) ∧ w'.cell? ⟨g4, o4 + j, none⟩ = some (.slice B4 m4 e4) ∧ w'.cell? ⟨Y, 2, none⟩ = some (.slice (some ⟨gy, oy, none⟩) Yn3 Yc3) ∧ w'.cell? ⟨gy, oy + q, none⟩ = some (.int .i64 j)) (go_keep) (first
          | (go_at_call 21; refine (sameRow_b _ _ d5 d5 _ (by first | exact hr5 | exact hr5.new (gb_drew (gb_refl _ none))) (by first | exact hr4 | exact hr4.new (gb_drew (gb_refl _ none))) (c := true) (decide_eq_true rfl)).mono ?_; rintro e w9 ⟨rfl, hg9⟩; have hg9' : wr.grownBy w9 none := (by first | exact hg9 | exact gb_trans (gb_drew (gb_refl _ none)) hg9); have k0 := cell_new y3 hg9'; have k1 := cell_new x2 hg9'; have k2 := cell_new cx hg9'; have k3 := cell_new v0 hg9'; have k4 := cell_new x3 hg9'; have k5 := cell_new u0 hg9'; have k6 := cell_new y2 hg9'; have k7 := cell_new cy hg9'))
        all_goals go_wp2_with fail
        all_goals go_roundg (Xn3 + 1 - (q + 1))
        all_goals first
          | (exact ⟨q + 1, by omega, rfl, by go_num, gb_trans hgr (by first | exact hg9' | exact gb_drew hg9')⟩)
          | omega
      · obtain rfl : Xn3 = q := by omega
        clear hXr hYr hX4 hY4 hY3
        go_wp2_with fail
        go_ret
        exact ⟨rfl, gb_trans g7 hgr⟩
end Go.Proofs.YtihobnheficpjaaGreatDoor
