/- Walks: laws.FnLoseWorkerAll. -/
import Derived.Test.YtihobnheficpjaaGreatDoorM35
import Derived.Test.YtihobnheficpjaaGreatDoorI25Lose
namespace Go.Proofs.YtihobnheficpjaaGreatDoor
open Go.RowKit

/-- What holds while all that is left is done: some crew stands in block V. -/
def LoseMid (w wr : World) (pv : Value) (plan : List Node) (V N q k : Nat) : Prop :=
  ∃ (cx : Crew) (d kv o r : Value), BoxC wr V d kv o r cx ∧ CrewOk plan cx ∧ crewLeft plan cx = ((N - q : Nat) : Int) ∧ k < cx.deques.length ∧ RN wr pv plan ∧ w.grownBy wr none
set_option maxHeartbeats 3200000 in
set_option maxRecDepth 20000 in
theorem fnLoseWorkerAll_any (w : World) (v : Value) (n : Nat) (h : Bytes w w.heap.size v n) (hn : n ≤ 9223372036854775807) (a : Addr) (hE : ErrTurn w a) :
    Calls Tryz.prog 14 #[v] w fun e w' => e = .returned (.bool true) ∧ w.grownBy w' none := by
  obtain ⟨A, c, rfl, h2⟩ := id h
  have H := Lib.hid h
  clear h h2
  by_cases hbig : 1048576 < n
  · go_enter Tryz.func14, Tryz.ntmps14
    go_wp2_with fail
    go_ret
    exact ⟨rfl, gb_refl _ _⟩
  go_enter Tryz.func14, Tryz.ntmps14
  go_wp2_with fail
  refine (drawDrawLoseWorker_any _ _ n H.out (by omega)).mono ?_
  rintro e w1 ⟨pv, v1, wk, plan, cc, rfl, hp1, hcv1, hs1, hdc, hg1⟩
  obtain ⟨P1, pn, pc, rfl, -, hpn, -⟩ := hp1.form'
  obtain ⟨X1, Xn1, Xc1, X2, Xn2, Xc2, X3, Xn3, Xc3, X4, Xn4, Xc4, rfl, -, -, -, -⟩ := hcv1.form
  have hfit : cc.deques.length ≤ 1048576 ∧ ∀ d ∈ cc.deques, d.length ≤ 1048576 := drawnFit hdc
  have Hfit := Lib.hid hfit
  have Hpl : Hid (plan.length ≤ 1000000000) := by have := hs1.1; show _ ≤ _; omega
  have Hpn := Lib.hid hpn
  have hX := hcv1.box
  have gX := World.grownBy_alloc w1 (.cells #[.slice X1 Xn1 Xc1, .slice X2 Xn2 Xc2, .slice X3 Xn3 Xc3, .slice X4 Xn4 Xc4] 27) none
  have hp2 := hp1.new gX
  have g2 := gb_trans hg1 gX
  clear hp1 hcv1 hs1 hdc hg1 gX hfit hpn
  go_upto_region 4 with fail
  generalize w1.alloc (.cells #[.slice X1 Xn1 Xc1, .slice X2 Xn2 Xc2, .slice X3 Xn3 Xc3, .slice X4 Xn4 Xc4] 27) = w2 at hX hp2 g2 ⊢
  generalize w1.heap.size = X at hX ⊢
  have x0 := hX.d0
  have x1 := hX.d1
  have x2 := hX.d2
  have x3 := hX.d3
  go_wp2_with fail
  refine (implLoseWorker_any _ _ plan cc wk w2 hp2 hX.cv Hfit.out.2).mono ?_
  obtain ⟨R, hR⟩ : ∃ R, R = loseWorker plan cc wk := ⟨_, rfl⟩
  rw [← hR]
  have HR := Lib.hid hR
  clear hR
  intro e w3 hT3
  obtain ⟨v3, rfl, hF3, hg3⟩ := hT3.open_
  obtain ⟨Y1, Yn1, Yc1, Y2, Yn2, Yc2, Y3, Yn3, Yc3, Y4, Yn4, Yc4, rfl, -, -, -, -⟩ := hF3.form
  have hY := hF3.box
  clear hT3
  have gY := World.grownBy_alloc w3 (.cells #[.slice Y1 Yn1 Yc1, .slice Y2 Yn2 Yc2, .slice Y3 Yn3 Yc3, .slice Y4 Yn4 Yc4] 27) none
  have hX4 := (hX.new hg3).new gY
  have hp4 := (hp2.new hg3).new gY
  have g4 := gb_trans (gb_trans g2 hg3) gY
  clear x0 x1 x2 x3 hX hp2 g2 hF3 hg3 gY
  go_upto_region 5 with fail
  generalize w3.alloc (.cells #[.slice Y1 Yn1 Yc1, .slice Y2 Yn2 Yc2, .slice Y3 Yn3 Yc3, .slice Y4 Yn4 Yc4] 27) = w4 at hX4 hp4 g4 hY ⊢
  generalize w3.heap.size = Y at hY ⊢
  have x0 := hX4.d0
  have x1 := hX4.d1
  have x2 := hX4.d2
  have x3 := hX4.d3
  go_wp2_with fail
  refine (specLoseWorker_any _ _ plan cc wk w4 hp4 hX4.cv Hpl.out Hfit.out).mono ?_
  rw [← HR.out]
  intro e w5 hT
  obtain ⟨v5, rfl, hcv5, hg5⟩ := hT.open_
  obtain ⟨Z1, Zn1, Zc1, Z2, Zn2, Zc2, Z3, Zn3, Zc3, Z4, Zn4, Zc4, rfl, -, -, -, -⟩ := hcv5.form
  have hZ := hcv5.box
  have gZ := World.grownBy_alloc w5 (.cells #[.slice Z1 Zn1 Zc1, .slice Z2 Zn2 Zc2, .slice Z3 Zn3 Zc3, .slice Z4 Zn4 Zc4] 27) none
  have hX6 := (hX4.new hg5).new gZ
  have hY6 := (hY.new hg5).new gZ
  have hp6 := (hp4.new hg5).new gZ
  have g6 := gb_trans (gb_trans g4 hg5) gZ
  clear x0 x1 x2 x3 hX4 hp4 g4 hg5 gZ hcv5 hT hY
  go_upto_region 6 with fail
  generalize w5.alloc (.cells #[.slice Z1 Zn1 Zc1, .slice Z2 Zn2 Zc2, .slice Z3 Zn3 Zc3, .slice Z4 Zn4 Zc4] 27) = w6 at hX6 hp6 g6 hY6 hZ ⊢
  generalize w5.heap.size = Z at hZ ⊢
  have y0 := hY6.d0
  have y1 := hY6.d1
  have y2 := hY6.d2
  have y3 := hY6.d3
  have z0 := hZ.d0
  have z1 := hZ.d1
  have z2 := hZ.d2
  have z3 := hZ.d3
  cases R with
  | none =>
    go_wp2_with fail
    refine (sameCrew_any _ _ _ w6 hY6.cv hZ.cv).mono ?_
    rintro e w7 ⟨rfl, hg7⟩
    have hY7 := hY6.new hg7
    have hZ7 := hZ.new hg7
    have g7 := gb_trans g6 hg7
    clear y0 y1 y2 y3 z0 z1 z2 z3 hY6 hZ hX6 hp6 g6 hg7
    have y0 := hY7.d0
    have y1 := hY7.d1
    have y2 := hY7.d2
    have y3 := hY7.d3
    have z0 := hZ7.d0
    have z1 := hZ7.d1
    have z2 := hZ7.d2
    have z3 := hZ7.d3
    go_wp2_with fail
    refine (sameCrew_any _ _ _ w7 hY7.cv hZ7.cv).mono ?_
    rintro e w8 ⟨rfl, hg8⟩
    go_wp2_with fail
    go_ret
    exact ⟨rfl, gb_trans g7 hg8⟩
  | some c' =>
    go_wp2_with fail
    refine (sameCrew_any _ _ _ w6 hY6.cv hZ.cv).mono ?_
    rintro e w7 ⟨rfl, hg7⟩
    have hX7 := hX6.new hg7
    have hY7 := hY6.new hg7
    have hp7 := hp6.new hg7
    have g7 := gb_trans g6 hg7
    have hE7 := hE.new g7
    change BoxC w7 Y _ _ _ _ c' at hY7
    clear y0 y1 y2 y3 z0 z1 z2 z3 hY6 hZ hX6 hp6 g6 hg7
    obtain ⟨-, Hok', -⟩ := loseWorker_some HR.out.symm
    have hkd' : 0 < c'.deques.length := Hok'.d1
    obtain ⟨N, hN⟩ : ∃ N : Nat, crewLeft plan c' = N := Int.eq_ofNat_of_zero_le (crewLeft_nonneg Hok').1
    have hN10 : N ≤ 10 := by have := crewLeft_nonneg Hok'; have := planValid_len Hok'.pv; omega
    have hV := hY7.cv.box
    have gV := World.grownBy_alloc w7 (.cells #[.slice Y1 Yn1 Yc1, .slice Y2 Yn2 Yc2, .slice Y3 Yn3 Yc3, .slice Y4 Yn4 Yc4] 27) none
    have hY8 := hY7.new gV
    have hp8 := hp7.new gV
    have hVw : w.heap.size ≤ w7.heap.size := g7.size
    have g8 := gb_trans g7 gV
    have y0 := hY7.d0
    have y1 := hY7.d1
    have y2 := hY7.d2
    have y3 := hY7.d3
    go_upto_region 9 with fail
    generalize w7.alloc (.cells #[.slice Y1 Yn1 Yc1, .slice Y2 Yn2 Yc2, .slice Y3 Yn3 Yc3, .slice Y4 Yn4 Yc4] 27) = w8 at hV hY8 hp8 g8 ⊢
    generalize w7.heap.size = V at hV hVw ⊢
    clear y0 y1 y2 y3 hX7 hY7 hp7 g7 gV hE7
    have y0 := hY8.d0
    have y1 := hY8.d1
    have y2 := hY8.d2
    have y3 := hY8.d3
    have HL : Hid (∀ (v : Value) (w : World), RN w (.slice P1 pn pc) plan → CV w v c' → Calls Tryz.prog 40 #[.slice P1 pn pc, v] w fun e w' => e = .returned (.int .i64 N) ∧ w.grownBy w' none) := fun v w h1 h2 => by rw [← hN]; exact implCrewLeft_any (.slice P1 pn pc) v plan c' w h1 h2 (crew_fit Hok')
    have Hok2 := Lib.hid Hok'
    have HN := Lib.hid hN
    clear Hok' hN
    go_wp2_with fail
    refine (HL.out _ w8 hp8 hY8.cv).mono ?_
    rintro e w9 ⟨rfl, hg9⟩
    have hst : LoseMid w w9 (.slice P1 pn pc) plan V N 0 0 := ⟨c', _, _, _, _, hV.new hg9, Hok2.out, HN.out, hkd', hp8.new hg9, gb_trans g8 hg9⟩
    clear y0 y1 y2 y3 hY8 hV hp8 g8 hg9 HL HN
    go_wp2_with fail
    go_loopg [12] (N + 1) (fun mm i wr => ∃ q : Nat, q ≤ N ∧ mm = N + 1 - q ∧ i = .int .i64 q ∧ LoseMid w wr (.slice P1 pn pc) plan V N q 0)
    case atStart => exact ⟨0, Nat.zero_le _, rfl, rfl, hst⟩
    case round =>
      clear hst
      obtain ⟨q, hq, rfl, rfl, cx, vd, vk, vo, vr, hB, hok, hleft, hkx, hp, hg⟩ := hrel
      have Hok3 := Lib.hid hok
      have hE9 := hE.new hg
      obtain ⟨V1, Vn1, Vc1, V2, Vn2, Vc2, V3, Vn3, Vc3, V4, Vn4, Vc4, e0, -, -, -, -⟩ := hB.cv.form
      injection e0 with e0
      injection e0 with e0
      injection e0 with ea e0
      injection e0 with eb e0
      injection e0 with ec e0
      injection e0 with ed e0
      subst ea eb ec ed
      clear e0
      have v0 := hB.d0
      have v1 := hB.d1
      have v2 := hB.d2
      have v3 := hB.d3
      by_cases hlt : q < N
      · have hl := crewLeft_nonneg hok
        obtain ⟨cy, hcy⟩ := turnNext_left hok (by omega) hkx
        obtain ⟨-, hoky, hdy, -⟩ := turnNext_some hcy
        have hlessy := turnNext_less hcy
        have Hcy : Hid (turnNext plan cx 0 = some cy) := hcy
        have Hly : Hid (crewLeft plan cy = ((N - (q + 1) : Nat) : Int)) := by show _ = _; rw [hlessy, hleft]; omega
        have Hoky := Lib.hid hoky
        have hky : 0 < cy.deques.length := by rw [hdy]; exact hkx
        have hfx := Lib.hid (crew_fit hok)
        have hqi : (q : Int) < (N : Int) := by omega
        clear hok hleft hl hcy hoky hdy hlessy
        go_wp2_with fail
        refine (implTurnNext_any _ _ plan cx 0 a wr hE9 hp hB.cv hfx.out).mono ?_
        rw [Hcy.out]
        rintro e w10 ⟨v10, rfl, hF, hg10⟩
        obtain ⟨U1, Un1, Uc1, U2, Un2, Uc2, U3, Un3, Uc3, U4, Un4, Uc4, rfl⟩ := hF.form
        have hU := hF.cv.box
        have gU := World.grownBy_alloc w10 (.cells #[.slice U1 Un1 Uc1, .slice U2 Un2 Uc2, .slice U3 Un3 Uc3, .slice U4 Un4 Uc4] 27) none
        have hB2 := (hB.new hg10).new gU
        have hp2 := (hp.new hg10).new gU
        have g2 := gb_trans (gb_trans hg hg10) gU
        clear v0 v1 v2 v3 hB hp hg hE9 hF hg10 gU
        go_upto_region 14 with fail
        generalize w10.alloc (.cells #[.slice U1 Un1 Uc1, .slice U2 Un2 Uc2, .slice U3 Un3 Uc3, .slice U4 Un4 Uc4] 27) = w11 at hU hB2 hp2 g2 ⊢
        generalize w10.heap.size = U at hU ⊢
        have u0 := hU.d0
        have u1 := hU.d1
        have u2 := hU.d2
        have u3 := hU.d3
        have v0 := hB2.d0
        have v1 := hB2.d1
        have v2 := hB2.d2
        have v3 := hB2.d3
        have f0 := hB2.b.frozen 0
        have f1 := hB2.b.frozen 1
        have f2 := hB2.b.frozen 2
        have f3 := hB2.b.frozen 3
        have hset := gb_set4 w11 V (.slice U1 Un1 Uc1) (.slice U2 Un2 Uc2) (.slice U3 Un3 Uc3) (.slice U4 Un4 Uc4)
        have hfin : Hid (LoseMid w _ (.slice P1 pn pc) plan V N (q + 1) 0) := ⟨cy, _, _, _, _, hB2.put hU.cv, Hoky.out, Hly.out, hky, hp2.grown hset (NotE.blk hB2.b (by decide)) (NotE.blk hB2.b (by decide)), gb_new g2 hset (fun g e => by cases e; exact .inl hVw)⟩
        clear hset hU hB2 hp2 g2
        go_wp2_with fail
        go_roundg (N + 1 - (q + 1))
        case measure => omega
        case rel => exact ⟨q + 1, by omega, rfl, by go_num, hfin.out⟩
      · obtain rfl : N = q := by omega
        have hz : crewLeft plan cx = 0 := by rw [hleft]; omega
        have HR2 : Hid (decide (cx.rows = values plan) = true) := decide_eq_true (rows_all hok hz)
        have HP : Hid (planValid plan = true) := hok.pv
        clear hleft hz hok
        go_wp2_with fail
        refine (valuesOf_any _ plan wr hp).mono ?_
        unfold ValuesPost
        rw [HP.out, if_pos rfl]
        rintro e w10 ⟨v10, rfl, ho, hg10⟩
        have hrl : RL w10 v10 (values plan) := ho.rl
        obtain ⟨R1, rn1, rc1, rfl⟩ := hrl.val
        have hB2 := hB.new hg10
        have g2 := gb_trans hg hg10
        have v3 := hB2.d3
        clear v0 v1 v2 hB hp hg hE9 ho hg10
        go_wp2_with fail
        refine (sameRows_b _ _ cx.rows (values plan) w10 hB2.ro hrl HR2.out).mono ?_
        rintro e w11 ⟨rfl, hg11⟩
        go_wp2_with fail
        go_ret
        exact ⟨rfl, gb_trans g2 hg11⟩
end Go.Proofs.YtihobnheficpjaaGreatDoor
