/- Walks: laws.FnTurnNext. -/
import Derived.Test.YtihobnheficpjaaGreatDoorM35
namespace Go.Proofs.YtihobnheficpjaaGreatDoor
open Go.RowKit

set_option maxHeartbeats 3200000 in
set_option maxRecDepth 20000 in
theorem fnTurnNext_any (w : World) (v : Value) (n : Nat) (h : Bytes w w.heap.size v n) (hn : n ≤ 9223372036854775807) (a : Addr) (hE : ErrTurn w a) :
    Calls Tryz.prog 12 #[v] w fun e w' => e = .returned (.bool true) ∧ w.grownBy w' none := by
  obtain ⟨A, c, rfl, h2⟩ := id h
  have H := Lib.hid h
  clear h h2
  by_cases hbig : 1048576 < n
  · go_enter Tryz.func12, Tryz.ntmps12
    go_wp2_with fail
    go_ret
    exact ⟨rfl, gb_refl _ _⟩
  go_enter Tryz.func12, Tryz.ntmps12
  go_wp2_with fail
  refine (drawDrawTurnNext_any _ _ n H.out (by omega)).mono ?_
  rintro e w1 ⟨pv, v1, wk, plan, cc, rfl, hp1, hcv1, hs1, hdc, hg1⟩
  obtain ⟨P1, pn, pc, rfl, -, hpn, -⟩ := hp1.form'
  obtain ⟨X1, Xn1, Xc1, X2, Xn2, Xc2, X3, Xn3, Xc3, X4, Xn4, Xc4, rfl, -, -, -, -⟩ := hcv1.form
  have hfit : cc.deques.length ≤ 1048576 ∧ ∀ d ∈ cc.deques, d.length ≤ 1048576 := drawnFit hdc
  have Hfit := Lib.hid hfit
  have Hpl : Hid (plan.length ≤ 1000000000) := by have := hs1.1; show _ ≤ _; omega
  have Hpn := Lib.hid hpn
  have hX := hcv1.box
  have gX := World.grownBy_alloc w1 (.cells #[.slice X1 Xn1 Xc1, .slice X2 Xn2 Xc2, .slice X3 Xn3 Xc3, .slice X4 Xn4 Xc4] 27) none
  have hp2 := hp1.new gX
  have g2 := gb_trans hg1 gX
  clear hp1 hcv1 hs1 hdc hg1 gX hfit hpn
  go_upto_region 4 with fail
  generalize w1.alloc (.cells #[.slice X1 Xn1 Xc1, .slice X2 Xn2 Xc2, .slice X3 Xn3 Xc3, .slice X4 Xn4 Xc4] 27) = w2 at hX hp2 g2 ⊢
  generalize w1.heap.size = X at hX ⊢
  have x0 := hX.d0
  have x1 := hX.d1
  have x2 := hX.d2
  have x3 := hX.d3
  go_wp2_with fail
  refine (implTurnNext_any _ _ plan cc wk a w2 (hE.new g2) hp2 hX.cv Hfit.out.2).mono ?_
  obtain ⟨R, hR⟩ : ∃ R, R = turnNext plan cc wk := ⟨_, rfl⟩
  rw [← hR]
  have HR := Lib.hid hR
  clear hR
  rintro e w3 ⟨v3, rfl, hF3, hg3⟩
  obtain ⟨Y1, Yn1, Yc1, Y2, Yn2, Yc2, Y3, Yn3, Yc3, Y4, Yn4, Yc4, rfl⟩ := hF3.form
  have hY := hF3.cv.box
  have gY := World.grownBy_alloc w3 (.cells #[.slice Y1 Yn1 Yc1, .slice Y2 Yn2 Yc2, .slice Y3 Yn3 Yc3, .slice Y4 Yn4 Yc4] 27) none
  have hX4 := (hX.new hg3).new gY
  have hp4 := (hp2.new hg3).new gY
  have g4 := gb_trans (gb_trans g2 hg3) gY
  clear x0 x1 x2 x3 hX hp2 g2 hF3 hg3 gY
  go_upto_region 5 with fail
  generalize w3.alloc (.cells #[.slice Y1 Yn1 Yc1, .slice Y2 Yn2 Yc2, .slice Y3 Yn3 Yc3, .slice Y4 Yn4 Yc4] 27) = w4 at hX4 hp4 g4 hY ⊢
  generalize w3.heap.size = Y at hY ⊢
  have x0 := hX4.d0
  have x1 := hX4.d1
  have x2 := hX4.d2
  have x3 := hX4.d3
  go_wp2_with fail
  refine (specTurnNext_any _ _ plan cc wk w4 hp4 hX4.cv Hpl.out Hfit.out).mono ?_
  rw [← HR.out]
  intro e w5 hT
  obtain ⟨v5, rfl, hcv5, hg5⟩ := hT.open_
  obtain ⟨Z1, Zn1, Zc1, Z2, Zn2, Zc2, Z3, Zn3, Zc3, Z4, Zn4, Zc4, rfl, -, -, -, -⟩ := hcv5.form
  have hZ := hcv5.box
  have gZ := World.grownBy_alloc w5 (.cells #[.slice Z1 Zn1 Zc1, .slice Z2 Zn2 Zc2, .slice Z3 Zn3 Zc3, .slice Z4 Zn4 Zc4] 27) none
  have hX6 := (hX4.new hg5).new gZ
  have hY6 := (hY.new hg5).new gZ
  have hp6 := (hp4.new hg5).new gZ
  have g6 := gb_trans (gb_trans g4 hg5) gZ
  clear x0 x1 x2 x3 hX4 hp4 g4 hg5 gZ hcv5 hT hY
  go_upto_region 6 with fail
  generalize w5.alloc (.cells #[.slice Z1 Zn1 Zc1, .slice Z2 Zn2 Zc2, .slice Z3 Zn3 Zc3, .slice Z4 Zn4 Zc4] 27) = w6 at hX6 hp6 g6 hY6 hZ ⊢
  generalize w5.heap.size = Z at hZ ⊢
  have y0 := hY6.d0
  have y1 := hY6.d1
  have y2 := hY6.d2
  have y3 := hY6.d3
  have z0 := hZ.d0
  have z1 := hZ.d1
  have z2 := hZ.d2
  have z3 := hZ.d3
  cases R with
  | none =>
    go_wp2_with fail
    refine (sameCrew_any _ _ _ w6 hY6.cv hZ.cv).mono ?_
    rintro e w7 ⟨rfl, hg7⟩
    have hY7 := hY6.new hg7
    have hZ7 := hZ.new hg7
    have g7 := gb_trans g6 hg7
    clear y0 y1 y2 y3 z0 z1 z2 z3 hY6 hZ hX6 hp6 g6 hg7
    have y0 := hY7.d0
    have y1 := hY7.d1
    have y2 := hY7.d2
    have y3 := hY7.d3
    have z0 := hZ7.d0
    have z1 := hZ7.d1
    have z2 := hZ7.d2
    have z3 := hZ7.d3
    go_wp2_with fail
    refine (sameCrew_any _ _ _ w7 hY7.cv hZ7.cv).mono ?_
    rintro e w8 ⟨rfl, hg8⟩
    go_wp2_with fail
    go_ret
    exact ⟨rfl, gb_trans g7 hg8⟩
  | some c' =>
    go_wp2_with fail
    refine (sameCrew_any _ _ _ w6 hY6.cv hZ.cv).mono ?_
    rintro e w7 ⟨rfl, hg7⟩
    have hX7 := hX6.new hg7
    have hY7 := hY6.new hg7
    have hp7 := hp6.new hg7
    have g7 := gb_trans g6 hg7
    have hE7 := hE.new g7
    change BoxC w7 Y _ _ _ _ c' at hY7
    clear y0 y1 y2 y3 z0 z1 z2 z3 hY6 hZ hX6 hp6 g6 hg7
    obtain ⟨Hok, Hok', -, x, hxr, hdn, -⟩ := turnNext_some HR.out.symm
    have hless := turnNext_less HR.out.symm
    have Hv : Hid (crewValid plan c' = true) := crewValid_iff.2 Hok'
    have Hf' := Lib.hid (crew_fit Hok')
    have Hf := Lib.hid (crew_fit Hok)
    obtain ⟨lc, hlc⟩ : ∃ lc, lc = crewLeft plan cc := ⟨_, rfl⟩
    obtain ⟨lo, hlo⟩ : ∃ lo, lo = crewLeft plan c' := ⟨_, rfl⟩
    have hb := crewLeft_nonneg Hok
    have hp10 := planValid_len Hok.pv
    have hw2 : IntKind.i64.wrap (lc - 1) = lo := by rw [IntWalk.i64_in _ (by omega)]; omega
    have HLc : Hid (∀ (pv v : Value) (w : World), RN w pv plan → CV w v cc → Calls Tryz.prog 40 #[pv, v] w fun e w' => e = .returned (.int .i64 lc) ∧ w.grownBy w' none) := fun pv v w h1 h2 => by rw [hlc]; exact implCrewLeft_any pv v plan cc w h1 h2 Hf.out
    have HLo : Hid (∀ (pv v : Value) (w : World), RN w pv plan → CV w v c' → Calls Tryz.prog 40 #[pv, v] w fun e w' => e = .returned (.int .i64 lo) ∧ w.grownBy w' none) := fun pv v w h1 h2 => by rw [hlo]; exact implCrewLeft_any pv v plan c' w h1 h2 Hf'.out
    have x0 := hX7.d0
    have x1 := hX7.d1
    have x2 := hX7.d2
    have x3 := hX7.d3
    have y0 := hY7.d0
    have y1 := hY7.d1
    have y2 := hY7.d2
    have y3 := hY7.d3
    clear Hok Hok' hxr hdn hless hlc hlo hb hp10
    go_wp2_with fail
    go_region_held3 (fun w' => w'.cell? ⟨Y, 0, none⟩ = some (.slice Y1 Yn1 Yc1) ∧ w'.cell? ⟨Y, 1, none⟩ = some (.slice Y2 Yn2 Yc2) ∧ w'.cell? ⟨Y, 2, none⟩ = some (.slice Y3 Yn3 Yc3) ∧ w'.cell? ⟨Y, 3, none⟩ = some (.slice Y4 Yn4 Yc4) ∧ w'.cell? ⟨X, 0, none⟩ = some (.slice X1 Xn1 Xc1) ∧ w'.cell? ⟨X, 1, none⟩ = some (.slice X2 Xn2 Xc2) ∧ w'.cell? ⟨X, 2, none⟩ = some (.slice X3 Xn3 Xc3) ∧ w'.cell? ⟨X, 3, none⟩ = some (.slice X4 Xn4 Xc4)) (go_keep) (first
      | (go_at_call 20; refine (implCrewValid_b _ _ plan c' _ (by first | exact hp7 | exact hp7.new (gb_drew (gb_refl _ none))) (by first | exact hY7.cv | exact (hY7.new (gb_drew (gb_refl _ none))).cv) Hf'.out Hv.out).mono ?_; rintro e wv ⟨rfl, hgv⟩; have gV : w7.grownBy wv none := (by first | exact hgv | exact gb_trans (gb_drew (gb_refl _ none)) hgv); have k0 := cell_new y0 gV; have k1 := cell_new y1 gV; have k2 := cell_new y2 gV; have k3 := cell_new y3 gV; have k4 := cell_new x0 gV; have k5 := cell_new x1 gV; have k6 := cell_new x2 gV; have k7 := cell_new x3 gV)
      | (go_at_call 40; refine (HLo.out _ _ _ (by first | exact hp7.new gX | exact hp7.new gV) (by first | exact (hY7.new gX).cv | exact (hY7.new gV).cv)).mono ?_; rintro e wy ⟨rfl, hgy⟩; have gY : w7.grownBy wy none := (by first | exact gb_trans gX hgy | exact gb_trans gV hgy); have k0 := cell_new y0 gY; have k1 := cell_new y1 gY; have k2 := cell_new y2 gY; have k3 := cell_new y3 gY; have k4 := cell_new x0 gY; have k5 := cell_new x1 gY; have k6 := cell_new x2 gY; have k7 := cell_new x3 gY)
      | (go_at_call 40; refine (HLc.out _ _ _ (by first | exact hp7.new gY | exact hp7.new gV) (by first | exact (hX7.new gY).cv | exact (hX7.new gV).cv)).mono ?_; rintro e wx ⟨rfl, hgx⟩; have gX : w7.grownBy wx none := (by first | exact gb_trans gY hgx | exact gb_trans gV hgx); have k0 := cell_new y0 gX; have k1 := cell_new y1 gX; have k2 := cell_new y2 gX; have k3 := cell_new y3 gX; have k4 := cell_new x0 gX; have k5 := cell_new x1 gX; have k6 := cell_new x2 gX; have k7 := cell_new x3 gX))
    all_goals go_wp2_with fail
    all_goals go_ret
    all_goals exact ⟨rfl, gb_trans g7 (by first | exact gX | exact gY | exact gb_drew gX | exact gb_drew gY)⟩
end Go.Proofs.YtihobnheficpjaaGreatDoor
