/- Walks: laws.FnTurnRunReady. -/
import Derived.Test.YtihobnheficpjaaGreatDoorM35
namespace Go.Proofs.YtihobnheficpjaaGreatDoor
open Go.RowKit

set_option maxHeartbeats 3200000 in
set_option maxRecDepth 20000 in
theorem fnTurnRunReady_any (w : World) (v : Value) (n : Nat) (h : Bytes w w.heap.size v n) (hn : n ≤ 9223372036854775807) (a : Addr) (hE : ErrTurn w a) :
    Calls Tryz.prog 4 #[v] w fun e w' => e = .returned (.bool true) ∧ w.grownBy w' none := by
  obtain ⟨A, c, rfl, h2⟩ := id h
  have H := Lib.hid h
  clear h h2
  by_cases hbig : 1048576 < n
  · go_enter Tryz.func4, Tryz.ntmps4
    go_wp2_with fail
    go_ret
    exact ⟨rfl, gb_refl _ _⟩
  go_enter Tryz.func4, Tryz.ntmps4
  go_wp2_with fail
  refine (drawTurnRun_any _ _ n H.out (by omega)).mono ?_
  rintro e w1 ⟨pv, v1, wk, plan, cc, rfl, hp1, hcv1, hs1, hdc, hg1⟩
  obtain ⟨P1, pn, pc, rfl, -, hpn, -⟩ := hp1.form'
  obtain ⟨X1, Xn1, Xc1, X2, Xn2, Xc2, X3, Xn3, Xc3, X4, Xn4, Xc4, rfl, -, -, -, -⟩ := hcv1.form
  have hfit : cc.deques.length ≤ 1048576 ∧ ∀ d ∈ cc.deques, d.length ≤ 1048576 := drawnFit hdc
  have Hfit := Lib.hid hfit
  have Hpl : Hid (plan.length ≤ 1000000000) := by have := hs1.1; show _ ≤ _; omega
  have Hpn := Lib.hid hpn
  have hX := hcv1.box
  have gX := World.grownBy_alloc w1 (.cells #[.slice X1 Xn1 Xc1, .slice X2 Xn2 Xc2, .slice X3 Xn3 Xc3, .slice X4 Xn4 Xc4] 27) none
  have hp2 := hp1.new gX
  have g2 := gb_trans hg1 gX
  clear hp1 hcv1 hs1 hdc hg1 gX hfit hpn
  go_upto_region 4 with fail
  generalize w1.alloc (.cells #[.slice X1 Xn1 Xc1, .slice X2 Xn2 Xc2, .slice X3 Xn3 Xc3, .slice X4 Xn4 Xc4] 27) = w2 at hX hp2 g2 ⊢
  generalize w1.heap.size = X at hX ⊢
  have x0 := hX.d0
  have x1 := hX.d1
  have x2 := hX.d2
  have x3 := hX.d3
  go_wp2_with fail
  refine (implTurnRun_any _ _ plan cc wk a w2 (hE.new g2) hp2 hX.cv Hfit.out.2).mono ?_
  obtain ⟨R, hR⟩ : ∃ R, R = turnRun plan cc wk := ⟨_, rfl⟩
  rw [← hR]
  have HR := Lib.hid hR
  clear hR
  rintro e w3 ⟨v3, rfl, hF3, hg3⟩
  obtain ⟨Y1, Yn1, Yc1, Y2, Yn2, Yc2, Y3, Yn3, Yc3, Y4, Yn4, Yc4, rfl⟩ := hF3.form
  have hY := hF3.cv.box
  have gY := World.grownBy_alloc w3 (.cells #[.slice Y1 Yn1 Yc1, .slice Y2 Yn2 Yc2, .slice Y3 Yn3 Yc3, .slice Y4 Yn4 Yc4] 27) none
  have hX4 := (hX.new hg3).new gY
  have hp4 := (hp2.new hg3).new gY
  have g4 := gb_trans (gb_trans g2 hg3) gY
  clear x0 x1 x2 x3 hX hp2 g2 hF3 hg3 gY
  go_upto_region 5 with fail
  generalize w3.alloc (.cells #[.slice Y1 Yn1 Yc1, .slice Y2 Yn2 Yc2, .slice Y3 Yn3 Yc3, .slice Y4 Yn4 Yc4] 27) = w4 at hX4 hp4 g4 hY ⊢
  generalize w3.heap.size = Y at hY ⊢
  have x0 := hX4.d0
  have x1 := hX4.d1
  have x2 := hX4.d2
  have x3 := hX4.d3
  go_wp2_with fail
  refine (specTurnRun_any _ _ plan cc wk w4 hp4 hX4.cv Hpl.out Hfit.out).mono ?_
  rw [← HR.out]
  intro e w5 hT
  obtain ⟨v5, rfl, hcv5, hg5⟩ := hT.open_
  obtain ⟨Z1, Zn1, Zc1, Z2, Zn2, Zc2, Z3, Zn3, Zc3, Z4, Zn4, Zc4, rfl, -, -, -, -⟩ := hcv5.form
  have hZ := hcv5.box
  have gZ := World.grownBy_alloc w5 (.cells #[.slice Z1 Zn1 Zc1, .slice Z2 Zn2 Zc2, .slice Z3 Zn3 Zc3, .slice Z4 Zn4 Zc4] 27) none
  have hX6 := (hX4.new hg5).new gZ
  have hY6 := (hY.new hg5).new gZ
  have hp6 := (hp4.new hg5).new gZ
  have g6 := gb_trans (gb_trans g4 hg5) gZ
  clear x0 x1 x2 x3 hX4 hp4 g4 hg5 gZ hcv5 hT hY
  go_upto_region 6 with fail
  generalize w5.alloc (.cells #[.slice Z1 Zn1 Zc1, .slice Z2 Zn2 Zc2, .slice Z3 Zn3 Zc3, .slice Z4 Zn4 Zc4] 27) = w6 at hX6 hp6 g6 hY6 hZ ⊢
  generalize w5.heap.size = Z at hZ ⊢
  have y0 := hY6.d0
  have y1 := hY6.d1
  have y2 := hY6.d2
  have y3 := hY6.d3
  have z0 := hZ.d0
  have z1 := hZ.d1
  have z2 := hZ.d2
  have z3 := hZ.d3
  cases R with
  | none =>
    go_wp2_with fail
    refine (sameCrew_any _ _ _ w6 hY6.cv hZ.cv).mono ?_
    rintro e w7 ⟨rfl, hg7⟩
    have hY7 := hY6.new hg7
    have hZ7 := hZ.new hg7
    have g7 := gb_trans g6 hg7
    clear y0 y1 y2 y3 z0 z1 z2 z3 hY6 hZ hX6 hp6 g6 hg7
    have y0 := hY7.d0
    have y1 := hY7.d1
    have y2 := hY7.d2
    have y3 := hY7.d3
    have z0 := hZ7.d0
    have z1 := hZ7.d1
    have z2 := hZ7.d2
    have z3 := hZ7.d3
    go_wp2_with fail
    refine (sameCrew_any _ _ _ w7 hY7.cv hZ7.cv).mono ?_
    rintro e w8 ⟨rfl, hg8⟩
    go_wp2_with fail
    go_ret
    exact ⟨rfl, gb_trans g7 hg8⟩
  | some c' =>
    go_wp2_with fail
    refine (sameCrew_any _ _ _ w6 hY6.cv hZ.cv).mono ?_
    rintro e w7 ⟨rfl, hg7⟩
    have hX7 := hX6.new hg7
    have hY7 := hY6.new hg7
    have hp7 := hp6.new hg7
    have g7 := gb_trans g6 hg7
    have hE7 := hE.new g7
    change BoxC w7 Y _ _ _ _ c' at hY7
    clear y0 y1 y2 y3 z0 z1 z2 z3 hY6 hZ hX6 hp6 g6 hg7
    obtain ⟨Hok, k, r, x, rfl, hk, hd, hxr, hc', Hok'⟩ := turnRun_some HR.out.symm
    have hdq : c'.deques = cc.deques.set k (r ++ newReady plan cc.counts x) := by rw [hc']; exact doNode_deques hk
    have hcd : Hid (countsDone plan cc.counts x = some (takeCounts plan cc.counts x, newReady plan cc.counts x)) := Hok.done hxr
    have hk1 : k < Xn1 := by rw [hX7.dq.len]; exact hk
    have hYX : Yn1 = Xn1 := by rw [hY7.dq.len, hX7.dq.len, hdq, List.length_set]
    subst hYX
    obtain ⟨g1, o1, d1, Bd, md, ed, rfl, hd1, q0, hrd, hmd, hmc, -⟩ := hX7.dq.at_ hk1
    obtain rfl : r ++ [x] = d1 := Option.some.inj (hd.symm.trans hd1)
    have hm10 : r.length ≤ 10 := by have := deque_len Hok _ (List.mem_of_getElem? hd); rw [List.length_append] at this; simp at this; omega
    obtain ⟨m, hm⟩ : ∃ m, m = r.length := ⟨_, rfl⟩
    have hmm : md = m + 1 := by rw [hmd, hm]; simp
    obtain ⟨gd, od, y', rfl, hy', cd⟩ := hrd.at_ (k := m) (by omega)
    obtain rfl : x = y' := by
      rw [hm, List.getElem?_append_right (Nat.le_refl _), Nat.sub_self] at hy'
      exact Option.some.inj hy'
    have hT := hrd.take (k := m) (by omega)
    rw [hm, List.take_left, ← hm] at hT
    obtain ⟨g3, o3, d3, Bk, mk, ek, rfl, hd3, s0, hrk, -, -, -⟩ := hY7.dq.at_ hk1
    obtain rfl : r ++ newReady plan cc.counts x = d3 := by
      rw [hdq, List.getElem?_set_self hk] at hd3
      exact Option.some.inj hd3
    have Hoth : Hid (∀ j, j ≠ k → c'.deques[j]? = cc.deques[j]?) := fun j hj => by rw [hdq, List.getElem?_set_ne (fun e => hj e.symm)]
    have hnr : (newReady plan cc.counts x).length ≤ 1000 := by
      have h1 := List.length_filter_le (fun i => has plan i x && decide (cc.counts.getD i 0 = 1)) (List.range plan.length)
      have h2 := planValid_len Hok.pv
      unfold newReady
      rw [List.length_map]
      rw [List.length_range] at h1
      omega
    have hn4 : Yn1 ≤ 4 := by rw [hX7.dq.len]; exact Hok.d4
    have hki : (k : Int) < (Yn1 : Int) := by omega
    have hw1 : IntKind.i64.wrap ((md : Int) - 1) = (m : Int) := by rw [IntWalk.i64_in _ (by omega)]; omega
    have hb3 : (m : Int) < (md : Int) := by omega
    have hb4 : (0 : Int) ≤ (m : Int) := by omega
    have hb5 : (m : Int) ≤ (ed : Int) := by omega
    have x0 := hX7.d0
    have x1 := hX7.d1
    have Hm := Lib.hid hm
    clear hd hd1 hd3 hc' hk hxr hdq Hok Hok' hm hy' hmd hmm hmc
    go_wp2_with fail
    refine (implCountsDone_any _ _ plan cc.counts x w7 hp7 hX7.ct).mono ?_
    intro e w8 hO
    rw [hcd.out] at hO
    obtain ⟨kv, rv, rfl, o8, p8, hg8⟩ := hO
    obtain ⟨K1, K2, K3, rfl⟩ := o8.ri.val
    obtain ⟨R1, R2, R3, rfl⟩ := p8.ri.val
    have hX8 := hX7.new hg8
    have hY8 := hY7.new hg8
    have g8 := gb_trans g7 hg8
    have z0 := cell_new s0 hg8
    have z1 := cell_new q0 hg8
    have r8 := p8.ri
    have k8 := hrk.new hg8
    have t8 := hT.new hg8
    clear x0 x1 q0 s0 cd hX7 hY7 hp7 o8 p8 hg8 hrk hT hrd
    go_wp2_with fail
    go_loopg [15] (Yn1 + 1) (fun mm i wr => ∃ q : Nat, q ≤ Yn1 ∧ mm = Yn1 + 1 - q ∧ i = .int .i64 q ∧ w8.grownBy wr none)
    case atStart => exact ⟨0, Nat.zero_le _, rfl, rfl, gb_refl _ _⟩
    case round =>
      obtain ⟨q, hq, rfl, rfl, hgr⟩ := hrel
      have x0 := (hX8.new hgr).d0
      by_cases hlt : q < Yn1
      · have hqi : (q : Int) < (Yn1 : Int) := by omega
        by_cases hqk : q = k
        · obtain rfl : k = q := hqk.symm
          have hb : ((k : Int) != (k : Int)) = false := by simp
          have hbe : ((k : Int) == (k : Int)) = true := by simp
          have hS := Lib.hid hgr
          go_wp2_with fail
          go_quiet (fail)
          all_goals go_wp2_with fail
          all_goals go_roundg (Yn1 + 1 - (k + 1))
          all_goals first
            | (exact ⟨k + 1, by omega, rfl, by go_num, by first | exact gb_drewN hgr _ | exact hgr⟩)
            | omega
        · have hb : ((q : Int) != (k : Int)) = true := by simp; omega
          have hbe : ((q : Int) == (k : Int)) = false := by simp; omega
          have hXr := hX8.new hgr
          have hYr := hY8.new hgr
          obtain ⟨gx, ox, dx, Bx, mx, ex, eA, hdx, u0, hrx, -, -, -⟩ := hXr.dq.at_ hlt
          injection eA with eA
          injection eA with eg eo
          subst eg eo
          obtain ⟨gy, oy, dy, By, my, ey, eA, hdy, v0, hry, -, -, -⟩ := hYr.dq.at_ hlt
          injection eA with eA
          injection eA with eg eo
          subst eg eo
          obtain rfl : dx = dy := Option.some.inj (hdx.symm.trans ((Hoth.out q hqk).symm.trans hdy))
          have y0 := hYr.d0
          clear hdx hdy hXr hYr
          go_wp2_with fail
          go_region_held3 (fun w' => w'.cell? ⟨Y, 0, none⟩ = some (.slice (some ⟨g3, o3, none⟩) Yn1 Yc1) ∧ w'.cell? ⟨g3, o3 + q, none⟩ = some (.slice By my ey) ∧ w'.cell? ⟨X, 0, none⟩ = some (.slice (some ⟨g1, o1, none⟩) Yn1 Xc1) ∧ w'.cell? ⟨g1, o1 + q, none⟩ = some (.slice Bx mx ex)) (go_keep) (first
            | (go_at_call 21; refine (sameRow_b _ _ dx dx _ (by first | exact hry | exact hry.new (gb_drew (gb_refl _ none))) (by first | exact hrx | exact hrx.new (gb_drew (gb_refl _ none))) (c := true) (decide_eq_true rfl)).mono ?_; rintro e w9 ⟨rfl, hg9⟩; have hg9' : wr.grownBy w9 none := (by first | exact hg9 | exact gb_trans (gb_drew (gb_refl _ none)) hg9); have k0 := cell_new y0 hg9'; have k1 := cell_new v0 hg9'; have k2 := cell_new x0 hg9'; have k3 := cell_new u0 hg9'))
          all_goals go_wp2_with fail
          all_goals go_roundg (Yn1 + 1 - (q + 1))
          all_goals first
            | (exact ⟨q + 1, by omega, rfl, by go_num, gb_trans hgr (by first | exact hg9' | exact gb_drew hg9')⟩)
            | omega
      · obtain rfl : Yn1 = q := by omega
        have y0 := (hY8.new hgr).d0
        have v0 := cell_new z0 hgr
        have rR := r8.new hgr
        have rK := k8.new hgr
        have rT := t8.new hgr
        clear z0 z1 r8 k8 t8 hX8 hY8
        have hE : OwnI (wr.alloc (.cells #[] 3)).drew wr.heap.size (.slice (some ⟨wr.heap.size, 0, none⟩) 0 0) [] := OwnI.empty wr (Nat.le_refl _)
        have hgE : wr.grownBy (wr.alloc (.cells #[] 3)).drew none := gb_drew (World.grownBy_alloc wr _ none)
        have hrT := rT.new hgE
        have hr10 : r.length ≤ 10 := hm10
        have hlen : ([] : List Int).length + r.length ≤ 1000000000 := by simp only [List.length_nil]; omega
        have hlen2 : r.length + (newReady plan cc.counts x).length ≤ 1000000000 := by omega
        clear hE
        have hE : OwnI (wr.alloc (.cells #[] 3)).drew wr.heap.size (.slice (some ⟨wr.heap.size, 0, none⟩) 0 0) [] := OwnI.empty wr (Nat.le_refl _)
        go_wp2_with fail
        go_region_held3 (fun w' => w'.cell? ⟨Y, 0, none⟩ = some (.slice (some ⟨g3, o3, none⟩) Yn1 Yc1) ∧ w'.cell? ⟨g3, o3 + k, none⟩ = some (.slice Bk mk ek)) (go_keep) (first
          | (refine step_extend_ints_w (w := (wr.alloc (.cells #[] 3)).drew) (base := wr.heap.size) (v := .slice (some ⟨wr.heap.size, 0, none⟩) 0 0) (xv := .slice (some ⟨gd, od, none⟩) m ed) (l0 := []) (l := r) (.tmp 111) (.tmp 116) rfl rfl hE hrT hlen hgE.size rfl rfl ?_; intro v5 w5 hown5 hg5; have hg5' := hE.gb hgE hg5 (Nat.le_refl _); have hown5' : OwnI w5 wr.heap.size v5 r := (by simpa using hown5); have y05 := cell_new y0 hg5'; have v05 := cell_new v0 hg5'; have rR5 := rR.new hg5'; obtain ⟨A5, n5, c5, rfl⟩ := hown5.ri.val)
          | (refine step_extend_ints_w (w := w5) (base := wr.heap.size) (v := .slice A5 n5 c5) (xv := .slice R1 R2 R3) (l0 := r) (l := newReady plan cc.counts x) (.tmp 117) (.tmp 118) rfl rfl hown5' rR5 hlen2 hg5'.size rfl rfl ?_; intro v6 w6 hown6 hg6; have hg6' := hown5'.gb hg5' hg6 (Nat.le_refl _); have y06 := cell_new y0 hg6'; have v06 := cell_new v0 hg6'; have rK6 := rK.new hg6'; obtain ⟨A6, n6, c6, rfl⟩ := hown6.ri.val)
          | (go_at_call 21; refine (sameRow_b _ _ (r ++ newReady plan cc.counts x) (r ++ newReady plan cc.counts x) _ (by exact rK6) (by exact hown6.ri) (c := true) (decide_eq_true rfl)).mono ?_; rintro e w7x ⟨rfl, hg7x⟩; have hg7y := gb_trans hg6' hg7x; have y07 := cell_new y0 hg7y; have v07 := cell_new v0 hg7y))
        all_goals go_wp2_with fail
        all_goals go_ret
        all_goals exact ⟨rfl, gb_trans g8 (gb_trans hgr (by first | exact hg7y | exact gb_drew hg7y))⟩
end Go.Proofs.YtihobnheficpjaaGreatDoor
