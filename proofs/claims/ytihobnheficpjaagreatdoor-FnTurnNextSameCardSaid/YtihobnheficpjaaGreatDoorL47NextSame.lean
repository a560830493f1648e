/- Walks: laws.FnTurnNextSame. -/
import Derived.Test.YtihobnheficpjaaGreatDoorM35
namespace Go.Proofs.YtihobnheficpjaaGreatDoor
open Go.RowKit

set_option maxHeartbeats 3200000 in
set_option maxRecDepth 20000 in
theorem fnTurnNextSame_any (w : World) (v : Value) (n : Nat) (h : Bytes w w.heap.size v n) (hn : n ≤ 9223372036854775807) (a : Addr) (hE : ErrTurn w a) :
    Calls Tryz.prog 11 #[v] w fun e w' => e = .returned (.bool true) ∧ w.grownBy w' none := by
  obtain ⟨A, c, rfl, h2⟩ := id h
  have H := Lib.hid h
  clear h h2
  by_cases hbig : 1048576 < n
  · go_enter Tryz.func11, Tryz.ntmps11
    go_wp2_with fail
    go_ret
    exact ⟨rfl, gb_refl _ _⟩
  go_enter Tryz.func11, Tryz.ntmps11
  go_wp2_with fail
  refine (drawDrawTurnNext_any _ _ n H.out (by omega)).mono ?_
  rintro e w1 ⟨pv, v1, wk, plan, cc, rfl, hp1, hcv1, hs1, hdc, hg1⟩
  obtain ⟨P1, pn, pc, rfl, -, hpn, -⟩ := hp1.form'
  obtain ⟨X1, Xn1, Xc1, X2, Xn2, Xc2, X3, Xn3, Xc3, X4, Xn4, Xc4, rfl, -, -, -, -⟩ := hcv1.form
  have hfit : cc.deques.length ≤ 1048576 ∧ ∀ d ∈ cc.deques, d.length ≤ 1048576 := drawnFit hdc
  have Hfit := Lib.hid hfit
  have Hpl : Hid (plan.length ≤ 1000000000) := by have := hs1.1; show _ ≤ _; omega
  have Hpn := Lib.hid hpn
  have hX := hcv1.box
  have gX := World.grownBy_alloc w1 (.cells #[.slice X1 Xn1 Xc1, .slice X2 Xn2 Xc2, .slice X3 Xn3 Xc3, .slice X4 Xn4 Xc4] 27) none
  have hp2 := hp1.new gX
  have g2 := gb_trans hg1 gX
  clear hp1 hcv1 hs1 hdc hg1 gX hfit hpn
  go_upto_region 4 with fail
  generalize w1.alloc (.cells #[.slice X1 Xn1 Xc1, .slice X2 Xn2 Xc2, .slice X3 Xn3 Xc3, .slice X4 Xn4 Xc4] 27) = w2 at hX hp2 g2 ⊢
  generalize w1.heap.size = X at hX ⊢
  have x0 := hX.d0
  have x1 := hX.d1
  have x2 := hX.d2
  have x3 := hX.d3
  go_wp2_with fail
  refine (implTurnNext_any _ _ plan cc wk a w2 (hE.new g2) hp2 hX.cv Hfit.out.2).mono ?_
  obtain ⟨R, hR⟩ : ∃ R, R = turnNext plan cc wk := ⟨_, rfl⟩
  rw [← hR]
  have HR := Lib.hid hR
  clear hR
  rintro e w3 ⟨v3, rfl, hF3, hg3⟩
  obtain ⟨Y1, Yn1, Yc1, Y2, Yn2, Yc2, Y3, Yn3, Yc3, Y4, Yn4, Yc4, rfl⟩ := hF3.form
  have hY := hF3.cv.box
  have gY := World.grownBy_alloc w3 (.cells #[.slice Y1 Yn1 Yc1, .slice Y2 Yn2 Yc2, .slice Y3 Yn3 Yc3, .slice Y4 Yn4 Yc4] 27) none
  have hX4 := (hX.new hg3).new gY
  have hp4 := (hp2.new hg3).new gY
  have g4 := gb_trans (gb_trans g2 hg3) gY
  clear x0 x1 x2 x3 hX hp2 g2 hF3 hg3 gY
  go_upto_region 5 with fail
  generalize w3.alloc (.cells #[.slice Y1 Yn1 Yc1, .slice Y2 Yn2 Yc2, .slice Y3 Yn3 Yc3, .slice Y4 Yn4 Yc4] 27) = w4 at hX4 hp4 g4 hY ⊢
  generalize w3.heap.size = Y at hY ⊢
  have x0 := hX4.d0
  have x1 := hX4.d1
  have x2 := hX4.d2
  have x3 := hX4.d3
  go_wp2_with fail
  refine (specTurnNext_any _ _ plan cc wk w4 hp4 hX4.cv Hpl.out Hfit.out).mono ?_
  rw [← HR.out]
  intro e w5 hT
  obtain ⟨v5, rfl, hcv5, hg5⟩ := hT.open_
  obtain ⟨Z1, Zn1, Zc1, Z2, Zn2, Zc2, Z3, Zn3, Zc3, Z4, Zn4, Zc4, rfl, -, -, -, -⟩ := hcv5.form
  have hZ := hcv5.box
  have gZ := World.grownBy_alloc w5 (.cells #[.slice Z1 Zn1 Zc1, .slice Z2 Zn2 Zc2, .slice Z3 Zn3 Zc3, .slice Z4 Zn4 Zc4] 27) none
  have hX6 := (hX4.new hg5).new gZ
  have hY6 := (hY.new hg5).new gZ
  have hp6 := (hp4.new hg5).new gZ
  have g6 := gb_trans (gb_trans g4 hg5) gZ
  clear x0 x1 x2 x3 hX4 hp4 g4 hg5 gZ hcv5 hT hY
  go_upto_region 6 with fail
  generalize w5.alloc (.cells #[.slice Z1 Zn1 Zc1, .slice Z2 Zn2 Zc2, .slice Z3 Zn3 Zc3, .slice Z4 Zn4 Zc4] 27) = w6 at hX6 hp6 g6 hY6 hZ ⊢
  generalize w5.heap.size = Z at hZ ⊢
  have y0 := hY6.d0
  have y1 := hY6.d1
  have y2 := hY6.d2
  have y3 := hY6.d3
  have z0 := hZ.d0
  have z1 := hZ.d1
  have z2 := hZ.d2
  have z3 := hZ.d3
  cases R with
  | none =>
    go_wp2_with fail
    refine (sameCrew_any _ _ _ w6 hY6.cv hZ.cv).mono ?_
    rintro e w7 ⟨rfl, hg7⟩
    have hY7 := hY6.new hg7
    have hZ7 := hZ.new hg7
    have g7 := gb_trans g6 hg7
    clear y0 y1 y2 y3 z0 z1 z2 z3 hY6 hZ hX6 hp6 g6 hg7
    have y0 := hY7.d0
    have y1 := hY7.d1
    have y2 := hY7.d2
    have y3 := hY7.d3
    have z0 := hZ7.d0
    have z1 := hZ7.d1
    have z2 := hZ7.d2
    have z3 := hZ7.d3
    go_wp2_with fail
    refine (sameCrew_any _ _ _ w7 hY7.cv hZ7.cv).mono ?_
    rintro e w8 ⟨rfl, hg8⟩
    go_wp2_with fail
    go_ret
    exact ⟨rfl, gb_trans g7 hg8⟩
  | some c' =>
    go_wp2_with fail
    refine (sameCrew_any _ _ _ w6 hY6.cv hZ.cv).mono ?_
    rintro e w7 ⟨rfl, hg7⟩
    have hX7 := hX6.new hg7
    have hY7 := hY6.new hg7
    have hp7 := hp6.new hg7
    have g7 := gb_trans g6 hg7
    have hE7 := hE.new g7
    change BoxC w7 Y _ _ _ _ c' at hY7
    clear y0 y1 y2 y3 z0 z1 z2 z3 hY6 hZ hX6 hp6 g6 hg7
    have hfa := Lib.hid HR.out
    have x0 := hX7.d0
    have x1 := hX7.d1
    have x2 := hX7.d2
    have x3 := hX7.d3
    go_wp2_with fail
    refine (implTurnFrom_any _ _ plan cc wk w7 hp7 hX7.cv Hfit.out.2).mono ?_
    rintro e w8 ⟨rfl, hg8⟩
    obtain ⟨f, hf⟩ : ∃ f, f = turnFrom plan cc wk := ⟨_, rfl⟩
    rw [← hf]
    have h0 := HR.out
    unfold turnNext at h0
    rw [← hf] at h0
    have h1 : f ≠ -1 := by
      intro e
      rw [if_pos e] at h0
      cases h0
    rw [if_neg h1] at h0
    have hX8 := hX7.new hg8
    have hY8 := hY7.new hg8
    have hp8 := hp7.new hg8
    have g8 := gb_trans g7 hg8
    have hE8 := hE.new g8
    clear x0 x1 x2 x3 hX7 hY7 hp7 g7 hE7 hg8 hf
    have x0 := hX8.d0
    have x1 := hX8.d1
    have x2 := hX8.d2
    have x3 := hX8.d3
    by_cases h2 : f = wk
    · have hb : (f == wk) = true := by simpa using h2
      rw [if_pos h2] at h0
      have Hr := Lib.hid h0
      clear h0 h1 h2
      go_wp2_with fail
      refine (implTurnRun_any _ _ plan cc wk a w8 hE8 hp8 hX8.cv Hfit.out.2).mono ?_
      rw [← Hr.out]
      rintro e w9 ⟨v9, rfl, hF9, hg9⟩
      obtain ⟨V1, Vn1, Vc1, V2, Vn2, Vc2, V3, Vn3, Vc3, V4, Vn4, Vc4, rfl⟩ := hF9.form
      have hV := hF9.cv.box
      have gV := World.grownBy_alloc w9 (.cells #[.slice V1 Vn1 Vc1, .slice V2 Vn2 Vc2, .slice V3 Vn3 Vc3, .slice V4 Vn4 Vc4] 27) none
      have hY10 := (hY8.new hg9).new gV
      have g10 := gb_trans (gb_trans g8 hg9) gV
      clear x0 x1 x2 x3 hX8 hY8 hp8 g8 hE8 hg9 gV hF9
      go_upto_region 11 with fail
      generalize w9.alloc (.cells #[.slice V1 Vn1 Vc1, .slice V2 Vn2 Vc2, .slice V3 Vn3 Vc3, .slice V4 Vn4 Vc4] 27) = w10 at hV hY10 g10 ⊢
      generalize w9.heap.size = V at hV ⊢
      have v0 := hV.d0
      have v1 := hV.d1
      have v2 := hV.d2
      have v3 := hV.d3
      have y0 := hY10.d0
      have y1 := hY10.d1
      have y2 := hY10.d2
      have y3 := hY10.d3
      go_wp2_with fail
      refine (sameCrew_any _ _ c' w10 hV.cv hY10.cv).mono ?_
      rintro e w11 ⟨rfl, hg11⟩
      go_wp2_with fail
      go_ret
      exact ⟨rfl, gb_trans g10 hg11⟩
    · have hb : (f == wk) = false := by simpa using h2
      rw [if_neg h2] at h0
      have Hr := Lib.hid h0
      clear h0 h1 h2
      go_wp2_with fail
      refine (implTurnSteal_any _ _ plan cc wk f a w8 hE8 hp8 hX8.cv Hfit.out.2).mono ?_
      rw [← Hr.out]
      rintro e w9 ⟨v9, rfl, hF9, hg9⟩
      obtain ⟨V1, Vn1, Vc1, V2, Vn2, Vc2, V3, Vn3, Vc3, V4, Vn4, Vc4, rfl⟩ := hF9.form
      have hV := hF9.cv.box
      have gV := World.grownBy_alloc w9 (.cells #[.slice V1 Vn1 Vc1, .slice V2 Vn2 Vc2, .slice V3 Vn3 Vc3, .slice V4 Vn4 Vc4] 27) none
      have hY10 := (hY8.new hg9).new gV
      have g10 := gb_trans (gb_trans g8 hg9) gV
      clear x0 x1 x2 x3 hX8 hY8 hp8 g8 hE8 hg9 gV hF9
      go_upto_region 13 with fail
      generalize w9.alloc (.cells #[.slice V1 Vn1 Vc1, .slice V2 Vn2 Vc2, .slice V3 Vn3 Vc3, .slice V4 Vn4 Vc4] 27) = w10 at hV hY10 g10 ⊢
      generalize w9.heap.size = V at hV ⊢
      have v0 := hV.d0
      have v1 := hV.d1
      have v2 := hV.d2
      have v3 := hV.d3
      have y0 := hY10.d0
      have y1 := hY10.d1
      have y2 := hY10.d2
      have y3 := hY10.d3
      go_wp2_with fail
      refine (sameCrew_any _ _ c' w10 hV.cv hY10.cv).mono ?_
      rintro e w11 ⟨rfl, hg11⟩
      go_wp2_with fail
      go_ret
      exact ⟨rfl, gb_trans g10 hg11⟩
end Go.Proofs.YtihobnheficpjaaGreatDoor
