/- Walks: impl.CrewAt; laws.FnLoseWorkerLeft. · What the frames of the laws share: an argument of bytes. -/
import Derived.Test.YtihobnheficpjaaGreatM23
import Derived.Test.YtihobnheficpjaaGreatM14
import Derived.Test.YtihobnheficpjaaGreatM24
import Derived.Test.YtihobnheficpjaaGreatM30
import Derived.Test.YtihobnheficpjaaGreatM31
import Derived.Test.YtihobnheficpjaaGreatM12
import Derived.Test.YtihobnheficpjaaGreatRows
import Derived.WalkKit
import Derived.ProofKit
import Derived.OpenShut
import Derived.ShutString
import Derived.ChangeOld
import Derived.Below
namespace Go.Proofs.YtihobnheficpjaaGreat
open Go.RowKit

theorem drawnFit {plan : List Node} {c : Crew} (h : DrawnCrew plan c) : c.deques.length ≤ 1048576 ∧ ∀ d ∈ c.deques, d.length ≤ 1048576 := by
  rcases h with h | rfl
  · exact ⟨by have := h.d4; omega, fun d hd => by have := deque_len h d hd; omega⟩
  · exact ⟨by simp [crew0], fun d hd => by simp [crew0] at hd⟩
theorem crew_fit {plan : List Node} {c : Crew} (h : CrewOk plan c) : ∀ d ∈ c.deques, d.length ≤ 1048576 := (drawnFit (.inl h)).2
set_option maxRecDepth 20000 in
theorem sameCrew_any (va vb : Value) (c : Crew) (w : World) (ha : CV w va c) (hb : CV w vb c) : Calls Tryz.prog 7 #[va, vb] w fun e w' => e = .returned (.bool true) ∧ w.grownBy w' none := by
  obtain ⟨A1, n1, c1, A2, n2, c2, A3, n3, c3, A4, n4, c4, rfl, -, -, -, -⟩ := ha.form
  obtain ⟨B1, m1, e1, B2, m2, e2, B3, m3, e3, B4, m4, e4, rfl, -, -, -, -⟩ := hb.form
  have hX := ha.box.new (World.grownBy_alloc _ (.cells #[.slice B1 m1 e1, .slice B2 m2 e2, .slice B3 m3 e3, .slice B4 m4 e4] 27) none)
  have hY := (hb.new (World.grownBy_alloc w (.cells #[.slice A1 n1 c1, .slice A2 n2 c2, .slice A3 n3 c3, .slice A4 n4 c4] 27) none)).box
  rw [World.size_alloc] at hY
  have g1 : w.grownBy ((w.alloc (.cells #[.slice A1 n1 c1, .slice A2 n2 c2, .slice A3 n3 c3, .slice A4 n4 c4] 27)).alloc (.cells #[.slice B1 m1 e1, .slice B2 m2 e2, .slice B3 m3 e3, .slice B4 m4 e4] 27)) none := gb_alloc (gb_alloc (gb_refl w none) _) _
  clear ha hb
  go_enter Tryz.func7, Tryz.ntmps7
  go_upto_region 1 with fail
  generalize ((w.alloc (.cells #[.slice A1 n1 c1, .slice A2 n2 c2, .slice A3 n3 c3, .slice A4 n4 c4] 27)).alloc (.cells #[.slice B1 m1 e1, .slice B2 m2 e2, .slice B3 m3 e3, .slice B4 m4 e4] 27)) = W at hX hY g1 ⊢
  have x0 := hX.d0
  have y0 := hY.d0
  go_wp2_with fail
  refine (sameRows_b _ _ c.deques c.deques W hX.dq hY.dq (c := true) (decide_eq_true rfl)).mono ?_
  rintro e w1 ⟨rfl, hg1⟩
  replace hX := hX.new hg1
  replace hY := hY.new hg1
  replace g1 := gb_trans g1 hg1
  clear x0 y0 hg1
  have x1 := hX.d1
  have y1 := hY.d1
  go_wp2_with fail
  refine (sameRow_b _ _ c.counts c.counts w1 hX.ct hY.ct (c := true) (decide_eq_true rfl)).mono ?_
  rintro e w2 ⟨rfl, hg1⟩
  replace hX := hX.new hg1
  replace hY := hY.new hg1
  replace g1 := gb_trans g1 hg1
  clear x1 y1 hg1
  have x2 := hX.d2
  have y2 := hY.d2
  go_wp2_with fail
  refine (sameRow_b _ _ c.done c.done w2 hX.dn hY.dn (c := true) (decide_eq_true rfl)).mono ?_
  rintro e w3 ⟨rfl, hg1⟩
  replace hX := hX.new hg1
  replace hY := hY.new hg1
  replace g1 := gb_trans g1 hg1
  clear x2 y2 hg1
  have x3 := hX.d3
  have y3 := hY.d3
  go_wp2_with fail
  refine (sameRows_b _ _ c.rows c.rows w3 hX.ro hY.ro (c := true) (decide_eq_true rfl)).mono ?_
  rintro e w4 ⟨rfl, hg1⟩
  go_wp2_with fail
  go_ret
  exact ⟨rfl, gb_trans g1 hg1⟩
theorem crewAt_hit {plan : List Node} {c : Crew} {x : Int} {k : Nat} {d : List Int} (hv : crewValid plan c = true) (hk : c.deques[k]? = some d) (hx : x ∈ d) (hno : ∀ i d', i < k → c.deques[i]? = some d' → x ∉ d') : crewAt plan c x = k := by
  unfold crewAt
  rw [if_pos hv]
  obtain ⟨hkl, hkd⟩ := List.getElem?_eq_some_iff.1 hk
  have e : c.deques.findIdx? (fun d => decide (x ∈ d)) = some k := by
    rw [List.findIdx?_eq_some_iff_getElem]
    refine ⟨hkl, by rw [hkd]; exact decide_eq_true hx, fun j hj => ?_⟩
    have := hno j _ hj (List.getElem?_eq_getElem (by omega))
    simpa using this
  rw [e]
theorem crewAt_miss {plan : List Node} {c : Crew} {x : Int} (hv : crewValid plan c = true) (hno : ∀ (i : Nat) d', i < c.deques.length → c.deques[i]? = some d' → x ∉ d') : crewAt plan c x = -1 := by
  unfold crewAt
  rw [if_pos hv]
  have e : c.deques.findIdx? (fun d => decide (x ∈ d)) = none := by
    rw [List.findIdx?_eq_none_iff]
    intro d hd
    obtain ⟨i, hi, rfl⟩ := List.getElem_of_mem hd
    exact decide_eq_false (hno i _ hi (List.getElem?_eq_getElem hi))
  rw [e]
set_option maxHeartbeats 800000 in
set_option maxRecDepth 20000 in
theorem crewAt_any (pv v : Value) (plan : List Node) (c : Crew) (x : Int) (w : World) (hp : RN w pv plan) (h : CV w v c) (hfit : ∀ d ∈ c.deques, d.length ≤ 1048576) (hv : crewValid plan c = true) :
    Calls Tryz.prog 9 #[pv, v, .int .i64 x] w fun e w' => e = .returned (.int .i64 (crewAt plan c x)) ∧ w.grownBy w' none := by
  obtain ⟨A0, n0, c0, rfl, -, hn0, -⟩ := hp.form'
  obtain ⟨A1, n1, c1, A2, n2, c2, A3, n3, c3, A4, n4, c4, rfl, h1, h2, h3, h4⟩ := h.form
  have Hn1 := Lib.hid h1.len
  have hB := h.box
  have hg := World.grownBy_alloc w (.cells #[.slice A1 n1 c1, .slice A2 n2 c2, .slice A3 n3 c3, .slice A4 n4 c4] 27) none
  have k0 := hp.new hg
  have Hfit := Lib.hid hfit
  have Hv := Lib.hid hv
  have hn10 : n1 ≤ 10 := by have := (crewValid_iff.1 hv).d4; have := Hn1.out; omega
  clear hn0 h1 h2 h3 h4 hp h hfit hv
  go_enter Tryz.func9, Tryz.ntmps9
  go_upto_region 1 with fail
  generalize w.alloc (.cells #[.slice A1 n1 c1, .slice A2 n2 c2, .slice A3 n3 c3, .slice A4 n4 c4] 27) = W at hB hg k0 ⊢
  have d0 := hB.d0
  have d1 := hB.d1
  have d2 := hB.d2
  have d3 := hB.d3
  go_wp2_with fail
  refine (implCrewValid_b _ _ plan c W k0 hB.cv Hfit.out Hv.out).mono ?_
  rintro e w1 ⟨rfl, hg1⟩
  have B1 := hB.new hg1
  clear d0 d1 d2 d3
  have d0 := B1.d0
  have g1 := gb_trans hg hg1
  have hdq := B1.dq
  clear hB hg hg1 k0 B1
  have hst : Hid (∀ i d', i < 0 → c.deques[i]? = some d' → x ∉ d') := fun i _ hi => by omega
  go_wp2_with fail
  go_loopg [16] (n1 + 1) (fun mm i wr => ∃ k : Nat, k ≤ n1 ∧ mm = n1 + 1 - k ∧ i = .int .i64 k ∧ Hid (∀ i d', i < k → c.deques[i]? = some d' → x ∉ d') ∧ wr = w1)
  case atStart => exact ⟨0, Nat.zero_le _, rfl, rfl, hst, rfl⟩
  case round =>
    clear hst
    obtain ⟨k, hk, rfl, rfl, Hno, rfl⟩ := hrel
    by_cases hlt : k < n1
    · obtain ⟨g, o, l, Bd, md, ed, rfl, hl, q0, hrl, -, -, -⟩ := hdq.at_ hlt
      have Hl := Lib.hid hl
      have hki : (k : Int) < (n1 : Int) := by omega
      clear hl
      go_wp2_with fail
      refine (contains_any _ l x _ hrl).mono ?_
      rintro e w2 ⟨rfl, rfl⟩
      by_cases hx : x ∈ l
      · have Hr : Hid (crewAt plan c x = (k : Int)) := crewAt_hit Hv.out Hl.out hx Hno.out
        clear Hno
        go_wp2_with fail
        go_ret
        exact ⟨by rw [Hr.out]; rfl, g1⟩
      · have Hno2 : Hid (∀ i d', i < k + 1 → c.deques[i]? = some d' → x ∉ d') := by
          show ∀ i d', _ → _ → _
          intro i d' hi hd
          by_cases hik : i = k
          · subst hik
            rw [Hl.out] at hd
            cases hd
            exact hx
          · exact Hno.out i d' (by omega) hd
        clear Hno
        go_wp2_with fail
        go_roundg (n1 + 1 - (k + 1))
        case measure => omega
        case rel => exact ⟨k + 1, by omega, rfl, by go_num, Hno2, rfl⟩
    · obtain rfl : k = n1 := by omega
      have Hr : Hid (crewAt plan c x = -1) := crewAt_miss Hv.out (fun i d' hi hd => Hno.out i d' (by have := Hn1.out; omega) hd)
      clear Hno
      go_wp2_with fail
      go_ret
      exact ⟨by rw [Hr.out]; rfl, g1⟩
def ShowMid (w wr : World) (X Y : Nat) (xd xk xo xr yd yk yo yr pv rv : Value) (plan : List Node) (cc c' : Crew) (R : List Int) : Prop :=
  BoxC wr X xd xk xo xr cc ∧ BoxC wr Y yd yk yo yr c' ∧ RN wr pv plan ∧ RI wr rv R ∧ w.grownBy wr none
theorem ShowMid.new {w wr wx : World} {X Y : Nat} {xd xk xo xr yd yk yo yr pv rv : Value} {plan : List Node} {cc c' : Crew} {R : List Int} (h : ShowMid w wr X Y xd xk xo xr yd yk yo yr pv rv plan cc c' R) (hg : wr.grownBy wx none) : ShowMid w wx X Y xd xk xo xr yd yk yo yr pv rv plan cc c' R :=
  ⟨h.1.new hg, h.2.1.new hg, h.2.2.1.new hg, h.2.2.2.1.new hg, gb_trans h.2.2.2.2 hg⟩
set_option maxHeartbeats 3200000 in
set_option maxRecDepth 20000 in
theorem fnLoseWorkerLeft_any (w : World) (v : Value) (n : Nat) (h : Bytes w w.heap.size v n) (hn : n ≤ 9223372036854775807) :
    Calls Tryz.prog 3 #[v] w fun e w' => e = .returned (.bool true) ∧ w.grownBy w' none := by
  obtain ⟨A, c, rfl, h2⟩ := id h
  have H := Lib.hid h
  clear h h2
  by_cases hbig : 1048576 < n
  · go_enter Tryz.func3, Tryz.ntmps3
    go_wp2_with fail
    go_ret
    exact ⟨rfl, gb_refl _ _⟩
  go_enter Tryz.func3, Tryz.ntmps3
  go_wp2_with fail
  refine (drawDrawLoseWorker_any _ _ n H.out (by omega)).mono ?_
  rintro e w1 ⟨pv, v1, wk, plan, cc, rfl, hp1, hcv1, hs1, hdc, hg1⟩
  obtain ⟨P1, pn, pc, rfl, -, hpn, -⟩ := hp1.form'
  obtain ⟨X1, Xn1, Xc1, X2, Xn2, Xc2, X3, Xn3, Xc3, X4, Xn4, Xc4, rfl, -, -, -, -⟩ := hcv1.form
  have hfit : cc.deques.length ≤ 1048576 ∧ ∀ d ∈ cc.deques, d.length ≤ 1048576 := drawnFit hdc
  have Hfit := Lib.hid hfit
  have Hpl : Hid (plan.length ≤ 1000000000) := by have := hs1.1; show _ ≤ _; omega
  have Hpn := Lib.hid hpn
  have hX := hcv1.box
  have gX := World.grownBy_alloc w1 (.cells #[.slice X1 Xn1 Xc1, .slice X2 Xn2 Xc2, .slice X3 Xn3 Xc3, .slice X4 Xn4 Xc4] 27) none
  have hp2 := hp1.new gX
  have g2 := gb_trans hg1 gX
  clear hp1 hcv1 hs1 hdc hg1 gX hfit hpn
  go_upto_region 4 with fail
  generalize w1.alloc (.cells #[.slice X1 Xn1 Xc1, .slice X2 Xn2 Xc2, .slice X3 Xn3 Xc3, .slice X4 Xn4 Xc4] 27) = w2 at hX hp2 g2 ⊢
  generalize w1.heap.size = X at hX ⊢
  have x0 := hX.d0
  have x1 := hX.d1
  have x2 := hX.d2
  have x3 := hX.d3
  go_wp2_with fail
  refine (implLoseWorker_any _ _ plan cc wk w2 hp2 hX.cv Hfit.out.2).mono ?_
  obtain ⟨R, hR⟩ : ∃ R, R = loseWorker plan cc wk := ⟨_, rfl⟩
  rw [← hR]
  have HR := Lib.hid hR
  clear hR
  intro e w3 hT3
  obtain ⟨v3, rfl, hF3, hg3⟩ := hT3.open_
  obtain ⟨Y1, Yn1, Yc1, Y2, Yn2, Yc2, Y3, Yn3, Yc3, Y4, Yn4, Yc4, rfl, -, -, -, -⟩ := hF3.form
  have hY := hF3.box
  clear hT3
  have gY := World.grownBy_alloc w3 (.cells #[.slice Y1 Yn1 Yc1, .slice Y2 Yn2 Yc2, .slice Y3 Yn3 Yc3, .slice Y4 Yn4 Yc4] 27) none
  have hX4 := (hX.new hg3).new gY
  have hp4 := (hp2.new hg3).new gY
  have g4 := gb_trans (gb_trans g2 hg3) gY
  clear x0 x1 x2 x3 hX hp2 g2 hF3 hg3 gY
  go_upto_region 5 with fail
  generalize w3.alloc (.cells #[.slice Y1 Yn1 Yc1, .slice Y2 Yn2 Yc2, .slice Y3 Yn3 Yc3, .slice Y4 Yn4 Yc4] 27) = w4 at hX4 hp4 g4 hY ⊢
  generalize w3.heap.size = Y at hY ⊢
  have x0 := hX4.d0
  have x1 := hX4.d1
  have x2 := hX4.d2
  have x3 := hX4.d3
  go_wp2_with fail
  refine (specLoseWorker_any _ _ plan cc wk w4 hp4 hX4.cv Hpl.out Hfit.out).mono ?_
  rw [← HR.out]
  intro e w5 hT
  obtain ⟨v5, rfl, hcv5, hg5⟩ := hT.open_
  obtain ⟨Z1, Zn1, Zc1, Z2, Zn2, Zc2, Z3, Zn3, Zc3, Z4, Zn4, Zc4, rfl, -, -, -, -⟩ := hcv5.form
  have hZ := hcv5.box
  have gZ := World.grownBy_alloc w5 (.cells #[.slice Z1 Zn1 Zc1, .slice Z2 Zn2 Zc2, .slice Z3 Zn3 Zc3, .slice Z4 Zn4 Zc4] 27) none
  have hX6 := (hX4.new hg5).new gZ
  have hY6 := (hY.new hg5).new gZ
  have hp6 := (hp4.new hg5).new gZ
  have g6 := gb_trans (gb_trans g4 hg5) gZ
  clear x0 x1 x2 x3 hX4 hp4 g4 hg5 gZ hcv5 hT hY
  go_upto_region 6 with fail
  generalize w5.alloc (.cells #[.slice Z1 Zn1 Zc1, .slice Z2 Zn2 Zc2, .slice Z3 Zn3 Zc3, .slice Z4 Zn4 Zc4] 27) = w6 at hX6 hp6 g6 hY6 hZ ⊢
  generalize w5.heap.size = Z at hZ ⊢
  have y0 := hY6.d0
  have y1 := hY6.d1
  have y2 := hY6.d2
  have y3 := hY6.d3
  have z0 := hZ.d0
  have z1 := hZ.d1
  have z2 := hZ.d2
  have z3 := hZ.d3
  cases R with
  | none =>
    go_wp2_with fail
    refine (sameCrew_any _ _ _ w6 hY6.cv hZ.cv).mono ?_
    rintro e w7 ⟨rfl, hg7⟩
    have hY7 := hY6.new hg7
    have hZ7 := hZ.new hg7
    have g7 := gb_trans g6 hg7
    clear y0 y1 y2 y3 z0 z1 z2 z3 hY6 hZ hX6 hp6 g6 hg7
    have y0 := hY7.d0
    have y1 := hY7.d1
    have y2 := hY7.d2
    have y3 := hY7.d3
    have z0 := hZ7.d0
    have z1 := hZ7.d1
    have z2 := hZ7.d2
    have z3 := hZ7.d3
    go_wp2_with fail
    refine (sameCrew_any _ _ _ w7 hY7.cv hZ7.cv).mono ?_
    rintro e w8 ⟨rfl, hg8⟩
    go_wp2_with fail
    go_ret
    exact ⟨rfl, gb_trans g7 hg8⟩
  | some c' =>
    go_wp2_with fail
    refine (sameCrew_any _ _ _ w6 hY6.cv hZ.cv).mono ?_
    rintro e w7 ⟨rfl, hg7⟩
    have hX7 := hX6.new hg7
    have hY7 := hY6.new hg7
    have hp7 := hp6.new hg7
    have g7 := gb_trans g6 hg7
    change BoxC w7 Y _ _ _ _ c' at hY7
    clear y0 y1 y2 y3 z0 z1 z2 z3 hY6 hZ hX6 hp6 g6 hg7
    obtain ⟨Hok, Hok', kk, -, -, -, hce⟩ := loseWorker_some HR.out.symm
    have hdone : c'.done = cc.done := by rw [hce]
    obtain ⟨N, hN⟩ : ∃ N : Int, crewLeft plan c' = N := ⟨_, rfl⟩
    have hN2 : crewLeft plan cc = N := by rw [← hN]; exact (loseWorker_left HR.out.symm).symm
    have HL1 : Hid (∀ (v : Value) (w : World), RN w (.slice P1 pn pc) plan → CV w v c' → Calls Tryz.prog 10 #[.slice P1 pn pc, v] w fun e w' => e = .returned (.int .i64 N) ∧ w.grownBy w' none) := fun v w h1 h2 => by rw [← hN]; exact implCrewLeft_any (.slice P1 pn pc) v plan c' w h1 h2 (crew_fit Hok')
    have HL2 : Hid (∀ (v : Value) (w : World), RN w (.slice P1 pn pc) plan → CV w v cc → Calls Tryz.prog 10 #[.slice P1 pn pc, v] w fun e w' => e = .returned (.int .i64 N) ∧ w.grownBy w' none) := fun v w h1 h2 => by rw [← hN2]; exact implCrewLeft_any (.slice P1 pn pc) v plan cc w h1 h2 (crew_fit Hok)
    have HA : Hid (∀ (x : Int) (v : Value) (w : World), x ∈ readyOf plan cc.done → RN w (.slice P1 pn pc) plan → CV w v c' → Calls Tryz.prog 9 #[.slice P1 pn pc, v, .int .i64 x] w fun e w' => (∃ z : Int, 0 ≤ z ∧ e = .returned (.int .i64 z)) ∧ w.grownBy w' none) := fun x v w hx h1 h2 => by
      refine (crewAt_any (.slice P1 pn pc) v plan c' x w h1 h2 (crew_fit Hok') (crewValid_iff.2 Hok')).mono ?_
      rintro e w' ⟨rfl, hg⟩
      exact ⟨⟨_, crewAt_ready Hok' (by rw [hdone]; exact hx), rfl⟩, hg⟩
    have HP : Hid (planValid plan = true) := Hok.pv
    clear Hok Hok' hce hdone hN hN2
    have x0 := hX7.d0
    have x1 := hX7.d1
    have x2 := hX7.d2
    have x3 := hX7.d3
    go_wp2_with fail
    refine (readyOf_any _ _ plan cc.done w7 hp7 hX7.dn HP.out).mono ?_
    rintro e w8 ⟨v8, rfl, ho8, hg8⟩
    obtain ⟨R1, rn, rc, rfl⟩ := ho8.ri.val
    obtain ⟨R, hR⟩ : ∃ R, R = readyOf plan cc.done := ⟨_, rfl⟩
    have hst : ShowMid w w8 X Y _ _ _ _ _ _ _ _ (.slice P1 pn pc) (.slice R1 rn rc) plan cc c' R := ⟨hX7.new hg8, hY7.new hg8, hp7.new hg8, by rw [hR]; exact ho8.ri, gb_trans g7 hg8⟩
    have hrl := hst.2.2.2.1.len
    have hrb : rn ≤ 10 := by
      have h1 := readyOf_len plan cc.done
      have := planValid_len HP.out
      rw [← hR] at h1
      omega
    have HR2 := Lib.hid hR
    clear x0 x1 x2 x3 hX7 hY7 hp7 g7 ho8 hg8 hrl hR
    go_wp2_with fail
    go_loopg [11] (rn + 1) (fun mm i wr => ∃ q : Nat, q ≤ rn ∧ mm = rn + 1 - q ∧ i = .int .i64 q ∧ ShowMid w wr X Y _ _ _ _ _ _ _ _ (.slice P1 pn pc) (.slice R1 rn rc) plan cc c' R)
    case atStart => exact ⟨0, Nat.zero_le _, rfl, rfl, hst⟩
    case round =>
      clear hst
      obtain ⟨q, hq, rfl, rfl, hM⟩ := hrel
      by_cases hlt : q < rn
      · obtain ⟨gr, or, xq, rfl, hxq, c0⟩ := hM.2.2.2.1.at_ hlt
        have HxR : Hid (xq ∈ readyOf plan cc.done) := by rw [HR2.out] at hxq; exact List.mem_of_getElem? hxq
        have hqi : (q : Int) < (rn : Int) := by omega
        have y0 := hM.2.1.d0
        have y1 := hM.2.1.d1
        have y2 := hM.2.1.d2
        have y3 := hM.2.1.d3
        have hD := hM.new (gb_drew (gb_refl wr none))
        clear hxq
        go_wp2_with fail
        go_upto_region 12 with fail
        go_region_held3 (fun w' => w'.cell? ⟨Y, 0, none⟩ = some (.slice Y1 Yn1 Yc1) ∧ w'.cell? ⟨Y, 1, none⟩ = some (.slice Y2 Yn2 Yc2) ∧ w'.cell? ⟨Y, 2, none⟩ = some (.slice Y3 Yn3 Yc3) ∧ w'.cell? ⟨Y, 3, none⟩ = some (.slice Y4 Yn4 Yc4) ∧ w'.cell? ⟨gr, or + q, none⟩ = some (.int .i64 xq)) (go_keep) (first
          | (go_at_call 9; refine (HA.out xq _ _ HxR.out (by first | exact hD.2.2.1 | exact hM.2.2.1) (by first | exact hD.2.1.cv | exact hM.2.1.cv)).mono ?_; rintro e w9 ⟨⟨z, hz, rfl⟩, hg9⟩; have hM9 := (by first | exact hD.new hg9 | exact hM.new hg9 : ShowMid w w9 X Y _ _ _ _ _ _ _ _ (.slice P1 pn pc) (.slice (some ⟨gr, or, none⟩) rn rc) plan cc c' R); have y09 := hM9.2.1.d0; have y19 := hM9.2.1.d1; have y29 := hM9.2.1.d2; have y39 := hM9.2.1.d3; have c09 := cell_new (by exact c0) hg9; have hz2 : ¬ (z < 0) := by omega))
        all_goals
          clear y0 y1 y2 y3 hD hM
          go_wp2_with fail
          go_roundg (rn + 1 - (q + 1))
          case measure => omega
          case rel => exact ⟨q + 1, by omega, rfl, by go_num, hM9⟩
      · obtain rfl : rn = q := by omega
        have y0 := hM.2.1.d0
        have y1 := hM.2.1.d1
        have y2 := hM.2.1.d2
        have y3 := hM.2.1.d3
        have x0 := hM.1.d0
        have x1 := hM.1.d1
        have x2 := hM.1.d2
        have x3 := hM.1.d3
        have hD := hM.new (gb_drew (gb_refl wr none))
        go_upto_region 14 with fail
        go_region_held3 (fun w' => w'.cell? ⟨Y, 0, none⟩ = some (.slice Y1 Yn1 Yc1) ∧ w'.cell? ⟨Y, 1, none⟩ = some (.slice Y2 Yn2 Yc2) ∧ w'.cell? ⟨Y, 2, none⟩ = some (.slice Y3 Yn3 Yc3) ∧ w'.cell? ⟨Y, 3, none⟩ = some (.slice Y4 Yn4 Yc4) ∧ w'.cell? ⟨X, 0, none⟩ = some (.slice X1 Xn1 Xc1) ∧ w'.cell? ⟨X, 1, none⟩ = some (.slice X2 Xn2 Xc2) ∧ w'.cell? ⟨X, 2, none⟩ = some (.slice X3 Xn3 Xc3) ∧ w'.cell? ⟨X, 3, none⟩ = some (.slice X4 Xn4 Xc4)) (go_keep) (first
          | (go_at_call 10; have hz := hM9; refine (HL2.out _ w9 hM9.2.2.1 hM9.1.cv).mono ?_; rintro e w10 ⟨rfl, hg10⟩; have hM10 := hM9.new hg10; have y010 := hM10.2.1.d0; have y110 := hM10.2.1.d1; have y210 := hM10.2.1.d2; have y310 := hM10.2.1.d3; have x010 := hM10.1.d0; have x110 := hM10.1.d1; have x210 := hM10.1.d2; have x310 := hM10.1.d3)
          | (go_at_call 10; refine (HL1.out _ _ (by first | exact hD.2.2.1 | exact hM.2.2.1) (by first | exact hD.2.1.cv | exact hM.2.1.cv)).mono ?_; rintro e w9 ⟨rfl, hg9⟩; have hM9 := (by first | exact hD.new hg9 | exact hM.new hg9 : ShowMid w w9 X Y _ _ _ _ _ _ _ _ (.slice P1 pn pc) _ plan cc c' R); have y09 := hM9.2.1.d0; have y19 := hM9.2.1.d1; have y29 := hM9.2.1.d2; have y39 := hM9.2.1.d3; have x09 := hM9.1.d0; have x19 := hM9.1.d1; have x29 := hM9.1.d2; have x39 := hM9.1.d3))
        all_goals
          have hfin := hM10.2.2.2.2
          clear y0 y1 y2 y3 x0 x1 x2 x3 hD hM
          go_wp2_with fail
          go_ret
          exact ⟨rfl, hfin⟩
end Go.Proofs.YtihobnheficpjaaGreat
namespace Go.Proofs.YtihobnheficpjaaGreat
open Go.ChangeShapes Go.WideShapes Go.ChangeAt Go.RowKit

theorem own_ : ownKnob Tryz.prog.godebug = none := by kernel_rfl
theorem laidOut_ : laidOutB Tryz.prog = true := by kernel_rfl

/-! The dump's head word, read once (each closed fact of a row reads it anew: too much for the kernel). -/
theorem order_ : Tryz.prog.initOrder = String.ofList (([104, 97, 114, 110, 101, 115, 115, 32, 54, 52, 56, 53, 56, 55, 101, 48, 54, 57, 48, 57, 55, 99, 102, 50, 99, 52, 53, 57, 101, 54, 48, 56, 99, 56, 57, 56, 98, 102, 57, 56, 52, 57, 54, 102, 49, 102, 97, 101, 49, 57, 49, 52, 54, 54, 102, 100, 48, 53, 98, 52, 52, 101, 55, 100, 51, 53, 49, 102, 100, 53, 52, 53, 32, 99, 117, 116, 32, 97, 116, 32, 108, 111, 111, 112, 46, 101, 120, 97, 109, 112, 108, 101, 47, 119, 111, 114, 107, 112, 108, 97, 110, 115, 47, 108, 97, 119, 115, 46, 70, 110, 76, 111, 115, 101, 87, 111, 114, 107, 101, 114, 76, 101, 102, 116] : List Nat).map Char.ofNat) := by kernel_rfl
theorem words_ : behindMainWord (wordsSigns Tryz.prog.initOrder.toList) = ([99, 117, 116] : List Nat).map Char.ofNat :: ([[97, 116], [108, 111, 111, 112, 46, 101, 120, 97, 109, 112, 108, 101, 47, 119, 111, 114, 107, 112, 108, 97, 110, 115, 47, 108, 97, 119, 115, 46, 70, 110, 76, 111, 115, 101, 87, 111, 114, 107, 101, 114, 76, 101, 102, 116]] : List (List Nat)).map (·.map Char.ofNat) := by
  rw [order_, String.toList_ofList]
  kernel_rfl
theorem strip_none (w : List Char) (ws : List (List Char)) : ∀ os : List String, os.all (fun o => !(w == o.toList)) = true → stripLifts os (w :: ws) = ([], w :: ws)
  | [], _ => rfl
  | o :: os, h => by
    simp only [List.all_cons, Bool.and_eq_true, Bool.not_eq_true'] at h
    unfold stripLifts
    rw [if_neg (by simp [h.1])]
    exact strip_none w ws os h.2
theorem strip_ (ws : List (List Char)) : stripLifts liftWords (([99, 117, 116] : List Nat).map Char.ofNat :: ws) = ([], ([99, 117, 116] : List Nat).map Char.ofNat :: ws) := strip_none _ ws liftWords (by kernel_rfl)
theorem mayEnter_gen {P : Program} {ws : List (List Char)} (h : behindMainWord (wordsSigns P.initOrder.toList) = ([99, 117, 116] : List Nat).map Char.ofNat :: ws) (h5 : P.laysLater = false) (h6 : P.bearsReflect = false) (h7 : P.doorFits [] = true) : P.mayEnter = true := by
  unfold Program.mayEnter
  rw [h]
  dsimp only
  rw [strip_]
  have h1 : (([99, 117, 116] : List Nat).map Char.ofNat == "gc".toList) = false := by kernel_rfl
  have h2 : (([99, 117, 116] : List Nat).map Char.ofNat == "spec".toList) = false := by kernel_rfl
  have h3 : (([99, 117, 116] : List Nat).map Char.ofNat == "carried".toList) = false := by kernel_rfl
  have h4 : (some (([99, 117, 116] : List Nat).map Char.ofNat) == some "cut".toList) = true := by kernel_rfl
  simp only [List.head?_cons, h1, h2, h3, h4, h5, h6, h7]
  simp
theorem mayEnter_ : Tryz.prog.mayEnter = true := mayEnter_gen words_ (by kernel_rfl) (by kernel_rfl) (by kernel_rfl)
theorem liftsFinal_gen {P : Program} {ws : List (List Char)} (h : behindMainWord (wordsSigns P.initOrder.toList) = ([99, 117, 116] : List Nat).map Char.ofNat :: ws) : P.liftsFinal = false := by
  unfold Program.liftsFinal Program.headLifts
  rw [h]
  dsimp only
  rw [strip_]
  simp [List.head?_cons]
theorem liftsFinal_ : Tryz.prog.liftsFinal = false := liftsFinal_gen words_
theorem make_gen {P : Program} {ws : List (List Char)} (h : behindMainWord (wordsSigns P.initOrder.toList) = ([99, 117, 116] : List Nat).map Char.ofNat :: ws) : P.make = some .cut := by
  unfold Program.make
  rw [h]
  rfl
theorem make_ : Tryz.prog.make = some .cut := make_gen words_
theorem joined_gen {P : Program} {f : FuncId} {fn : Func} {s : ChangeSpec} {c : OpenClaim} (k0 : c.wf (OpenSpec.ofChange s) = true) (k1 : laidOutB P = true) (k2 : mapsRowed P = true)
    (k3 : (fn.params.all (P.readableRec ·) && namedTie P c.named s.vars && (c.stops == []) && (P.stops == []) && (c.knobs == []) && (P.stopKnobs == [])) = true)
    (k4 : (c.inPlace == P.inPlace f) = true) (k5 : (c.unfollowed == P.unfollowed f) = true) (k6 : (c.recurses == P.recurses f) = true) (k7 : (c.named == P.varsNamed f) = true)
    (k8 : ((c.maps == (fn.params.toList ++ s.plain.varTypes P).any (P.mapsRec ·)) && (c.ifaces == (fn.params.toList ++ s.plain.varTypes P).any (P.ifacesRec ·)) && (c.mapsOut == P.mapsAmong fn.resultTypes.toList) &&
      (c.loops == (fn.params.toList ++ s.plain.varTypes P).any (P.loopsFrom ·)) && (c.wideKeys == (fn.params.toList ++ s.plain.varTypes P ++ fn.resultTypes.toList).any (P.wideKeysFrom ·))) = true)
    (k9 : (s.vars.all (P.varReadable ·) && fn.resultTypes.all (fun t => P.readableRec t && decide (t < P.types.size)) && (c.ifacesOut == fn.resultTypes.toList.any (P.ifacesRec ·)) && (c.loopsOut == fn.resultTypes.toList.any (P.loopsFrom ·))) = true)
    (k10 : ((c.plainKeys == P.plainKeys) && c.shortTexts.isNone && P.stopsHeard) = true) (k11 : P.mayEnter = true) (k12 : (c.lifted == P.liftsFinal) = true) (k13 : (P.make == some c.make) = true)
    (k14 : ((c.kinds == (if c.domain.isEmpty then [] else fn.params.toList.map fun t => match P.underlying t with | some (.int k) => some k | _ => none)) && (c.pinned == c.pinnedBy)) = true)
    (k15 : ((c.veiled == (fn.params.toList ++ s.plain.varTypes P ++ fn.resultTypes.toList).any (P.veiledRec ·)) && c.veiledFits P fn.params.toList (fn.params.toList ++ s.plain.varTypes P ++ fn.resultTypes.toList)) = true) :
    joinedFacts P f fn s c = true := by
  unfold joinedFacts
  simp only [Bool.and_eq_true] at k3 k8 k9 k10 k14 k15 ⊢
  obtain ⟨⟨⟨⟨⟨a1, a2⟩, a3⟩, a4⟩, a5⟩, a6⟩ := k3
  obtain ⟨⟨⟨⟨b1, b2⟩, b3⟩, b4⟩, b5⟩ := k8
  obtain ⟨⟨⟨c1, c2⟩, c3⟩, c4⟩ := k9
  obtain ⟨⟨d1, d2⟩, d3⟩ := k10
  obtain ⟨e1, e2⟩ := k14
  obtain ⟨f1, f2⟩ := k15
  exact ⟨⟨⟨⟨⟨⟨⟨⟨⟨⟨⟨⟨⟨⟨⟨⟨⟨⟨⟨⟨⟨⟨⟨⟨⟨⟨⟨⟨⟨⟨⟨k0, k1⟩, k2⟩, a1⟩, a2⟩, a3⟩, a4⟩, a5⟩, a6⟩, k4⟩, k5⟩, k6⟩, k7⟩, b1⟩, b2⟩, b3⟩, b4⟩, b5⟩, c1⟩, c2⟩, c3⟩, c4⟩, d1⟩, d2⟩, d3⟩, k11⟩, k12⟩, k13⟩, e1⟩, e2⟩, f1⟩, f2⟩

theorem inst_gen {P : Program} {fn : Func} (h1 : fn.origin = "") (h2 : fn.targs = #[]) (h3 : fn.name.toList.contains (Char.ofNat 91) = false) : fn.isInstance P "" [] :=
  ⟨h1, by rw [h2]; rfl, by rw [if_pos rfl]; exact ⟨rfl, h3⟩⟩
theorem wrap_gen (P : Program) (fn : Func) (h : Check.packageOf fn.name ≠ "main") : fn.isWrapper P false "" := by
  unfold Func.isWrapper
  rw [if_neg h]
  exact ⟨rfl, rfl⟩

theorem lt_of_cell_ {w : World} {a : Addr} {v : Value} (h : w.cell? a = some v) : a.block < w.heap.size := by
  unfold World.cell? at h
  split at h
  · rename_i hb; exact (Array.getElem?_eq_some_iff.1 hb).1
  · cases h

theorem bytes_of_arg {H : Type} {enc : TypeId × Value → H} {W : World} {a0 : Option Addr} {len0 cap0 : Nat} {d0 : DataW H} {p0 : List MemPlace}
    (h0 : DataW.Trod enc Tryz.prog W 0 (fun _ => true) true 22 (.slice a0 len0 cap0) d0 p0) : Bytes W W.heap.size (.slice a0 len0 cap0) len0 ∧ len0 ≤ 9223372036854775807 := by
  obtain ⟨fuel, hf⟩ := h0
  rcases open_ints Tryz.underlying22 Tryz.underlying5 (by kernel_rfl) hf with ⟨hcs, _⟩ | ⟨x, l, c, zs, hcs, _, hl, hm, hz, _, hcell, hwz⟩
  · simp [Value.cells] at hcs
    obtain ⟨rfl, rfl, rfl⟩ := hcs
    exact ⟨⟨none, 0, rfl, Nat.le_refl _, fun h => absurd h (by omega)⟩, by omega⟩
  · simp [Value.cells] at hcs
    obtain ⟨rfl, rfl, rfl⟩ := hcs
    refine ⟨⟨_, _, rfl, hl, fun h => ⟨x, rfl, ?_, fun j hj => ?_⟩⟩, by unfold maxLen at hm; omega⟩
    · have h1 := hcell 0 (by simp at hz; omega)
      simpa [Addr.add] using lt_of_cell_ h1
    · have hj' : j < zs.length := by simp at hz; omega
      have hw := hwz (zs.getD j 0) (by rw [List.getD_eq_getElem?_getD, List.getElem?_eq_getElem hj']; simp)
      have hb := bounds_u8 hw
      exact ⟨zs.getD j 0, hb.1, hb.2, hcell j hj'⟩
end Go.Proofs.YtihobnheficpjaaGreat
