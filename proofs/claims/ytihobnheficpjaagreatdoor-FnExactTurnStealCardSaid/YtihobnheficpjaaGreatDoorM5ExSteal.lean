/- Walks: laws.FnExactTurnSteal. -/
import Derived.Test.YtihobnheficpjaaGreatDoorM3Base
namespace Go.Proofs.YtihobnheficpjaaGreatDoor
open Go.RowKit

set_option maxHeartbeats 6400000 in
set_option maxRecDepth 20000 in
theorem fnExactTurnSteal_any (w : World) (v cv : Value) (plan : List Node) (c : Crew) (wk fz : Int) (a : Addr) (hE : ErrTurn w a) (h : ArgN w.heap.size w v plan) (hc : ArgC w.heap.size w cv c) :
    Calls Tryz.prog 9 #[v, cv, .int .i64 wk, .int .i64 fz] w fun e w' => e = .returned (.bool true) ∧ w.grownBy w' none := by
  obtain ⟨P1, pn, pc, rfl, -, -, -⟩ := h.form
  have hc' := hc
  obtain ⟨d, q, o, r, rfl, hcd, hck, hco, hcr⟩ := hc'
  obtain ⟨X1, Xn1, Xc1, rfl, -, -, -⟩ := hcd.form
  obtain ⟨X2, Xn2, Xc2, rfl, -, -, -⟩ := hck.form
  obtain ⟨X3, Xn3, Xc3, rfl, -, -, -⟩ := hco.form
  obtain ⟨X4, Xn4, Xc4, rfl, -, -, -⟩ := hcr.form
  obtain ⟨R, hR⟩ : ∃ R, R = turnSteal plan c wk fz := ⟨_, rfl⟩
  have hok : ∀ c', R = some c' → CrewOk plan c' := fun c' e => by obtain ⟨_, _, _, _, _, _, _, _, _, _, _, _, _, _, h⟩ := turnSteal_some (hR.symm.trans e); exact h
  obtain ⟨hf0, hs0⟩ := crewOpt_fits hok
  have Hf0 := Lib.hid hf0
  have HR := Lib.hid hR
  have hX0 := Blk.new w 44 #[.slice X1 Xn1 Xc1, .slice X2 Xn2 Xc2, .slice X3 Xn3 Xc3, .slice X4 Xn4 Xc4]
  have g0 := World.grownBy_alloc w (.cells #[.slice X1 Xn1 Xc1, .slice X2 Xn2 Xc2, .slice X3 Xn3 Xc3, .slice X4 Xn4 Xc4] 44) none
  have hsz0 : (w.alloc (.cells #[.slice X1 Xn1 Xc1, .slice X2 Xn2 Xc2, .slice X3 Xn3 Xc3, .slice X4 Xn4 Xc4] 44)).heap.size = w.heap.size + 1 := World.size_alloc _ _
  clear hcd hck hco hcr hok hR hf0
  go_enter Tryz.func9, Tryz.ntmps9
  go_upto_region 2 with fail
  generalize w.alloc (.cells #[.slice X1 Xn1 Xc1, .slice X2 Xn2 Xc2, .slice X3 Xn3 Xc3, .slice X4 Xn4 Xc4] 44) = W at hX0 g0 hsz0 ⊢
  go_wp2_with fail
  refine (szNodeS_any w.heap.size _ plan 1048576 _ (h.new g0 (Nat.le_refl _)) g0.size (by omega) (by omega)).mono ?_
  rintro e w1 ⟨⟨z, rfl, hz1, hz2, hz3⟩, hg1⟩
  have g1 := gb_trans g0 hg1
  rcases Int.lt_or_le z 0 with hz | hz
  · clear hz3
    go_wp2_with fail
    go_ret
    exact ⟨rfl, g1⟩
  have Hf := Lib.hid (hz3 hz)
  have hzn : ¬ (z < 0) := by omega
  clear hz3
  have hX1 := hX0.grown hg1 (by simp)
  have x0 := hX1.cell 0
  have x1 := hX1.cell 1
  have x2 := hX1.cell 2
  have x3 := hX1.cell 3
  go_wp2_with fail
  refine (szCrew_any w.heap.size _ c z w1 (hc.new g1 (Nat.le_refl _)) g1.size hz (by omega)).mono ?_
  rintro e w2 ⟨⟨y, rfl, hy1, hy2, hy3⟩, hg2⟩
  have gW2 := gb_trans hg1 hg2
  have g2 := gb_trans g0 gW2
  clear x0 x1 x2 x3 hX1 g1
  rcases Int.lt_or_le y 0 with hy | hy
  · clear hy3
    go_wp2_with fail
    go_ret
    exact ⟨rfl, g2⟩
  have Hc := Lib.hid (hy3 hy)
  have hyn : ¬ (y < 0) := by omega
  have Hpl : Hid (plan.length ≤ 1000000000) := by show _ ≤ _; have := Hf.out.1; omega
  have Hfit : Hid (c.deques.length ≤ 1048576 ∧ ∀ d ∈ c.deques, d.length ≤ 1048576) := Hc.out.1
  clear hy3
  have hX2 := hX0.grown gW2 (by simp)
  have x0 := hX2.cell 0
  have x1 := hX2.cell 1
  have x2 := hX2.cell 2
  have x3 := hX2.cell 3
  have gD := gb_drew g2
  go_upto_region 8 with fail
  go_cut [10, 11] (fun t8 t9 wx => ∃ b V1 Vn1 Vc1 V2 Vn2 Vc2 V3 Vn3 Vc3 V4 Vn4 Vc4, t8 = .pointer (some ⟨b, 0, none⟩) ∧ t9 = .bool R.isSome ∧ w2.heap.size ≤ b ∧ BoxC wx b (.slice V1 Vn1 Vc1) (.slice V2 Vn2 Vc2) (.slice V3 Vn3 Vc3) (.slice V4 Vn4 Vc4) (R.getD crew0) ∧ w2.grownBy wx none)
  case first =>
    go_region_held3 (fun w' => w'.cell? ⟨w.heap.size, 0, none⟩ = some (.slice X1 Xn1 Xc1) ∧ w'.cell? ⟨w.heap.size, 1, none⟩ = some (.slice X2 Xn2 Xc2) ∧ w'.cell? ⟨w.heap.size, 2, none⟩ = some (.slice X3 Xn3 Xc3) ∧ w'.cell? ⟨w.heap.size, 3, none⟩ = some (.slice X4 Xn4 Xc4)) (go_keep) (first
      | (go_at_call 30; have hz := p3; refine (toCrew_any w.heap.size _ c _ (hc.new (w' := _) (by first | exact gb_trans g2 g3 | exact gb_alloc (gb_trans g2 g3) _) (Nat.le_refl _)) (by first | exact (gb_trans g2 g3).size | exact (gb_alloc (gb_trans g2 g3) _).size) Hc.out).mono ?_; rintro e w4 ⟨d4, k4, o4, r4, rfl, hd4, hk4, ho4, hr4, hg4⟩; have q4 : CV w4 (.agg #[d4, k4, o4, r4]) c := ⟨_, _, _, _, rfl, hd4.rl, hk4.ri, ho4.ri, hr4.rl⟩; have g34 : w3.grownBy w4 none := (by first | exact hg4 | exact gb_trans (World.grownBy_alloc _ _ none) hg4); have p4 := p3.new g34; have g4 := gb_trans g3 g34; have hX4 := hX2.grown g4 (by simp); have x04 := hX4.cell 0; have x14 := hX4.cell 1; have x24 := hX4.cell 2; have x34 := hX4.cell 3; try (first | (have hbx4 := (Blk.new _ 27 #[.slice none 0 0, .slice none 0 0, .slice none 0 0, .slice none 0 0]).grown hg4 (by simp)) | (have hbx4 := hbx3.grown hg4 (by simp))))
      | (go_at_call 29; refine (toNodeS_any w.heap.size _ plan _ (h.new (by first | exact gb_drew g2 | exact g2 | exact gb_alloc (gb_drew g2) _ | exact gb_alloc g2 _) (Nat.le_refl _)) (by first | exact (gb_drew g2).size | exact g2.size | exact (gb_alloc (gb_drew g2) _).size | exact (gb_alloc g2 _).size) Hf.out).mono ?_; rintro e w3 ⟨v3, rfl, hd3, hg3⟩; have g3 : w2.grownBy w3 none := (by first | exact hg3 | exact gb_trans (gb_drew (gb_refl _ none)) hg3 | exact gb_trans (gb_alloc (gb_drew (gb_refl _ none)) _) hg3 | exact gb_trans (gb_alloc (gb_refl _ none) _) hg3); have p3 := hd3.rn; obtain ⟨A3, n3, c3, rfl⟩ := p3.val; have hX3 := hX2.grown g3 (by simp); have x03 := hX3.cell 0; have x13 := hX3.cell 1; have x23 := hX3.cell 2; have x33 := hX3.cell 3; try (first | (have hbx3 : Blk w3 w2.heap.size 27 #[.slice none 0 0, .slice none 0 0, .slice none 0 0, .slice none 0 0] := (Blk.new w2 27 #[.slice none 0 0, .slice none 0 0, .slice none 0 0, .slice none 0 0]).drew.grown hg3 (by simp)) | (have hbx3 : Blk w3 w2.heap.size 27 #[.slice none 0 0, .slice none 0 0, .slice none 0 0, .slice none 0 0] := (Blk.new _ 27 #[.slice none 0 0, .slice none 0 0, .slice none 0 0, .slice none 0 0]).grown hg3 (by simp))))
      | (go_at_call 26; have hz := q4; refine (specTurnSteal_any _ _ plan c wk fz _ (by first | exact p4 | exact p4.new (World.grownBy_alloc _ _ none)) (by first | exact q4 | exact q4.new (World.grownBy_alloc _ _ none)) Hpl.out Hfit.out).mono ?_; rw [← HR.out]; intro e w5 hT; obtain ⟨v5, rfl, hcv5, hg5⟩ := hT.open_; obtain ⟨V1, Vn1, Vc1, V2, Vn2, Vc2, V3, Vn3, Vc3, V4, Vn4, Vc4, rfl, -, -, -, -⟩ := hcv5.form; have g45 : w4.grownBy w5 none := (by first | exact hg5 | exact gb_trans (World.grownBy_alloc _ _ none) hg5); have g5 := gb_trans g4 g45; have hne1 : w.heap.size ≠ w4.heap.size := Nat.ne_of_lt (Nat.lt_of_lt_of_le hX2.lt g4.size); have hne2 := hne1.symm; have hne3 : w.heap.size ≠ w3.heap.size := Nat.ne_of_lt (Nat.lt_of_lt_of_le hX2.lt g3.size); have hne4 := hne3.symm; have hne5 : w.heap.size ≠ w2.heap.size := Nat.ne_of_lt hX2.lt; have hne6 := hne5.symm; have hne7 : w.heap.size ≠ w5.heap.size := Nat.ne_of_lt (Nat.lt_of_lt_of_le hX2.lt g5.size); have hne8 := hne7.symm; have hX5 := hX2.grown g5 (by simp); have x05 := hX5.cell 0; have x15 := hX5.cell 1; have x25 := hX5.cell 2; have x35 := hX5.cell 3; try (first | (have hbx5 := (Blk.new _ 27 #[.slice none 0 0, .slice none 0 0, .slice none 0 0, .slice none 0 0]).grown hg5 (by simp)) | (have hbx5 := hbx4.grown hg5 (by simp))); try (have yy0 := hbx5.cell 0; have ff0 := hbx5.frozen 0; have yy1 := hbx5.cell 1; have ff1 := hbx5.frozen 1; have yy2 := hbx5.cell 2; have ff2 := hbx5.frozen 2; have yy3 := hbx5.cell 3; have ff3 := hbx5.frozen 3)))
    all_goals
      go_wp2_with fail
      go_meet
      first
        | exact ⟨_, _, _, _, _, _, _, _, _, _, _, _, _, rfl, rfl, g4.size, (boxC_fill hbx5 hcv5).1, gb_new g5 (boxC_fill hbx5 hcv5).2 (fun g e => by cases e; exact .inl g4.size)⟩
        | exact ⟨_, _, _, _, _, _, _, _, _, _, _, _, _, rfl, rfl, g3.size, (boxC_fill hbx5 hcv5).1, gb_new g5 (boxC_fill hbx5 hcv5).2 (fun g e => by cases e; exact .inl g3.size)⟩
        | exact ⟨_, _, _, _, _, _, _, _, _, _, _, _, _, rfl, rfl, (Nat.le_refl _), (boxC_fill hbx5 hcv5).1, gb_new g5 (boxC_fill hbx5 hcv5).2 (fun g e => by cases e; exact .inl (Nat.le_refl _))⟩
        | exact ⟨_, _, _, _, _, _, _, _, _, _, _, _, _, rfl, rfl, g5.size, hcv5.box, gb_alloc g5 _⟩
  case rest =>
    obtain ⟨b8, V1, Vn1, Vc1, V2, Vn2, Vc2, V3, Vn3, Vc3, V4, Vn4, Vc4, rfl, rfl, hb8, hV, gV⟩ := hcut
    obtain ⟨Wc, hWc⟩ : ∃ Wc, Wc = wc := ⟨_, rfl⟩
    subst hWc
    have gWc := gb_trans gW2 gV
    have gc := gb_trans g0 gWc
    clear x0 x1 x2 x3 hX2 gD gV g2 gW2 hb8
    go_wp2_with fail
    refine (toNodeS_any w.heap.size _ plan Wc (h.new gc (Nat.le_refl _)) gc.size Hf.out).mono ?_
    rintro e w6 ⟨v6, rfl, hd6, hg6⟩
    have hp6 := hd6.rn
    obtain ⟨A6, n6, c6, rfl, -, hn6, -⟩ := hp6.form'
    have wn6 := hd6.wnd (lo := Wc.heap.size) (hi := w6.heap.size) (Nat.le_refl _) (Nat.le_refl _) Hf.out
    rw [← hn6] at wn6
    have hn6b : n6 ≤ 1048576 := by rw [hn6]; exact Hf.out.1
    have gW6 := gb_trans gWc hg6
    have g6 := gb_trans g0 gW6
    have hX6 := hX0.grown gW6 (by simp)
    clear hd6 hn6
    have x0 := hX6.cell 0
    have x1 := hX6.cell 1
    have x2 := hX6.cell 2
    have x3 := hX6.cell 3
    go_wp2_with fail
    refine (toCrew_any w.heap.size _ c w6 (hc.new g6 (Nat.le_refl _)) g6.size Hc.out).mono ?_
    rintro e w7 ⟨d7, k7, o7, r7, rfl, hd7, hk7, ho7, hr7, hg7⟩
    have hcv7 : CV w7 (.agg #[d7, k7, o7, r7]) c := ⟨_, _, _, _, rfl, hd7.rl, hk7.ri, ho7.ri, hr7.rl⟩
    have wd7 : WL w7 w6.heap.size w7.heap.size d7 c.deques.length := by
      obtain ⟨xs, hx, _⟩ := hd7
      exact hx.wl (Nat.le_refl _) (Nat.le_refl _) Hc.out.1
    have wr7 : WL w7 w6.heap.size w7.heap.size r7 c.rows.length := by
      obtain ⟨xs, hx, _⟩ := hr7
      exact hx.wl (Nat.le_refl _) (Nat.le_refl _) Hc.out.2.2.2
    have wk7 : WI w7 w6.heap.size w7.heap.size k7 c.counts.length := hk7.wi (Nat.le_refl _) (Nat.le_refl _) Hc.out.2.1
    have wo7 : WI w7 w6.heap.size w7.heap.size o7 c.done.length := ho7.wi (Nat.le_refl _) (Nat.le_refl _) Hc.out.2.2.1
    obtain ⟨D1, Dn1, Dc1, rfl⟩ := hd7.rl.val
    obtain ⟨D2, Dn2, Dc2, rfl⟩ := hk7.ri.val
    obtain ⟨D3, Dn3, Dc3, rfl⟩ := ho7.ri.val
    obtain ⟨D4, Dn4, Dc4, rfl⟩ := hr7.rl.val
    have hD7 := hcv7.box
    have gD7 := World.grownBy_alloc w7 (.cells #[.slice D1 Dn1 Dc1, .slice D2 Dn2 Dc2, .slice D3 Dn3 Dc3, .slice D4 Dn4 Dc4] 27) none
    have hs6 := hg6.size
    have hs7 := hg7.size
    have hs8 := gD7.size
    have mi : MI 0 0 w6 _ := MI.of_new (gb_trans hg7 gD7)
    have mi7 : MI 0 0 w7 _ := MI.of_new gD7
    have wn8 := wn6.mi mi
    have wd8 := wd7.mi mi7
    have wk8 := wk7.mi mi7
    have wo8 := wo7.mi mi7
    have wr8 := wr7.mi mi7
    have hp8 := hp6.new (gb_trans hg7 gD7)
    have gW8 := gb_trans gW6 (gb_trans hg7 gD7)
    have gc8 := gb_trans hg6 (gb_trans hg7 gD7)
    have g8 := gb_trans g0 gW8
    clear x0 x1 x2 x3 hX6 hcv7 wn6 wd7 wk7 wo7 wr7 hd7 hk7 ho7 hr7 hp6 hg7 hg6 gW6 g6 mi mi7
    go_upto_region 11 with fail
    have hBx : ∃ Bx, Bx = w7.heap.size := ⟨_, rfl⟩
    obtain ⟨Bx, hBx⟩ := hBx
    have hBx7 : w7.heap.size ≤ Bx := by rw [hBx]; exact Nat.le_refl _
    rw [← hBx] at hD7 ⊢
    clear hBx
    generalize w7.alloc (.cells #[.slice D1 Dn1 Dc1, .slice D2 Dn2 Dc2, .slice D3 Dn3 Dc3, .slice D4 Dn4 Dc4] 27) = w8 at hD7 gD7 wn8 wd8 wk8 wo8 wr8 hp8 gW8 gc8 g8 hs8 ⊢
    have d0 := hD7.d0
    have d1 := hD7.d1
    have d2 := hD7.d2
    have d3 := hD7.d3
    go_wp2_with fail
    refine (implTurnSteal_any _ _ plan c wk fz a w8 (hE.new g8) hp8 hD7.cv Hfit.out.2).mono ?_
    rw [← HR.out]
    rintro e w9 ⟨v9, rfl, hF9, hg9⟩
    obtain ⟨G1, Gn1, Gc1, G2, Gn2, Gc2, G3, Gn3, Gc3, G4, Gn4, Gc4, rfl⟩ := hF9.form
    have gG := World.grownBy_alloc w9 (.cells #[.slice G1 Gn1 Gc1, .slice G2 Gn2 Gc2, .slice G3 Gn3 Gc3, .slice G4 Gn4 Gc4] 27) none
    have hG := Blk.new w9 27 #[.slice G1 Gn1 Gc1, .slice G2 Gn2 Gc2, .slice G3 Gn3 Gc3, .slice G4 Gn4 Gc4]
    have hF10 := hF9.new gG
    have gx := gb_trans hg9 gG
    have hBg : ∃ Bg, Bg = w9.heap.size := ⟨_, rfl⟩
    obtain ⟨Bg, hBg⟩ := hBg
    have hBg8 : w8.heap.size ≤ Bg := by rw [hBg]; exact hg9.size
    clear d0 d1 d2 d3 hF9 hg9
    go_upto_region 12 with fail
    rw [← hBg] at hG ⊢
    clear hBg
    generalize w9.alloc (.cells #[.slice G1 Gn1 Gc1, .slice G2 Gn2 Gc2, .slice G3 Gn3 Gc3, .slice G4 Gn4 Gc4] 27) = w10 at hG hF10 gG gx ⊢
    have mi : MI 0 0 w8 w10 := MI.of_new gx
    have wn10 := wn8.mi mi
    have wd10 := wd8.mi mi
    have wk10 := wk8.mi mi
    have wo10 := wo8.mi mi
    have wr10 := wr8.mi mi
    have hp10 := hp8.new gx
    have hD10 := hD7.new gx
    have gW10 := gb_trans gW8 gx
    have gc10 := gb_trans gc8 gx
    have hV10 := hV.new gc10
    clear wn8 wd8 wk8 wo8 wr8 hp8 hD7 gW8 gc8 g8 mi gG gx
    have y0 := hG.cell 0
    have y1 := hG.cell 1
    have y2 := hG.cell 2
    have y3 := hG.cell 3
    have v0 := hV10.d0
    have v1 := hV10.d1
    have v2 := hV10.d2
    have v3 := hV10.d3
    go_wp2_with fail
    refine (eqCrew_any _ _ (R.getD crew0) w10 hF10.cv hV10.cv).mono ?_
    rintro e w11 ⟨rfl, hgx⟩
    have mi : MI 0 0 w10 w11 := MI.of_new hgx
    have wn11 := wn10.mi mi
    have wd11 := wd10.mi mi
    have wk11 := wk10.mi mi
    have wo11 := wo10.mi mi
    have wr11 := wr10.mi mi
    have hp11 := hp10.new hgx
    have hD11 := hD10.new hgx
    have hG11 := hG.grown hgx (by simp)
    have hF11 := hF10.new hgx
    have gW11 := gb_trans gW10 hgx
    have gc11 := gb_trans gc10 hgx
    have g11 := gb_trans g0 gW11
    clear y0 y1 y2 y3 v0 v1 v2 v3 wn10 wd10 wk10 wo10 wr10 hp10 hD10 hG hF10 gW10 gc10 hV10 mi hgx
    go_wp2_with fail
    refine (toNodeS_any w.heap.size _ plan w11 (h.new g11 (Nat.le_refl _)) g11.size Hf.out).mono ?_
    rintro e w12a ⟨v12, rfl, hd12, hg12⟩
    have hp12 := hd12.rn
    obtain ⟨A12, n12, c12, rfl⟩ := hp12.val
    clear hd12
    go_wp2_with fail
    refine (eqNodeS_any _ _ plan w12a (hp11.new hg12) hp12).mono ?_
    rintro e w12 ⟨rfl, hg12b⟩
    have hgx := gb_trans hg12 hg12b
    have mi : MI 0 0 w11 w12 := MI.of_new hgx
    have wn12 := wn11.mi mi
    have wd12 := wd11.mi mi
    have wk12 := wk11.mi mi
    have wo12 := wo11.mi mi
    have wr12 := wr11.mi mi
    have hD12 := hD11.new hgx
    have hG12 := hG11.grown hgx (by simp)
    have hF12 := hF11.new hgx
    have gW12 := gb_trans gW11 hgx
    have gc12 := gb_trans gc11 hgx
    have g12 := gb_trans g0 gW12
    have hX12 := hX0.grown gW12 (by simp)
    clear wn11 wd11 wk11 wo11 wr11 hp11 hD11 hG11 hF11 gW11 gc11 g11 mi hgx hg12 hg12b hp12
    have x0 := hX12.cell 0
    have x1 := hX12.cell 1
    have x2 := hX12.cell 2
    have x3 := hX12.cell 3
    have d0 := hD12.d0
    have d1 := hD12.d1
    have d2 := hD12.d2
    have d3 := hD12.d3
    have hD12b := hD12.b
    have gD12 : w12.grownBy w12.drew none := gb_drew (gb_refl w12 none)
    go_upto_region 16 with fail
    go_region_held3 (fun w' => w'.cell? ⟨w.heap.size, 0, none⟩ = some (.slice X1 Xn1 Xc1) ∧ w'.cell? ⟨w.heap.size, 1, none⟩ = some (.slice X2 Xn2 Xc2) ∧ w'.cell? ⟨w.heap.size, 2, none⟩ = some (.slice X3 Xn3 Xc3) ∧ w'.cell? ⟨w.heap.size, 3, none⟩ = some (.slice X4 Xn4 Xc4) ∧ w'.cell? ⟨Bx, 0, none⟩ = some (.slice D1 Dn1 Dc1) ∧ w'.cell? ⟨Bx, 1, none⟩ = some (.slice D2 Dn2 Dc2) ∧ w'.cell? ⟨Bx, 2, none⟩ = some (.slice D3 Dn3 Dc3) ∧ w'.cell? ⟨Bx, 3, none⟩ = some (.slice D4 Dn4 Dc4)) (go_keep) (first
      | (go_at_call 31; have hz := q13; refine (eqCrew_any _ _ c _ (hD12.new g13).cv q13).mono ?_; rintro e w14 ⟨rfl, hg14⟩; have g14 := gb_trans g13 hg14; have hX14 := hX12.grown g14 (by simp); have hD14 := hD12b.grown g14 (by simp); have x014 := hX14.cell 0; have d014 := hD14.cell 0; have x114 := hX14.cell 1; have d114 := hD14.cell 1; have x214 := hX14.cell 2; have d214 := hD14.cell 2; have x314 := hX14.cell 3; have d314 := hD14.cell 3)
      | (go_at_call 30; refine (toCrew_any w.heap.size _ c _ (hc.new (by first | exact gb_drew g12 | exact g12) (Nat.le_refl _)) (by first | exact (gb_drew g12).size | exact g12.size) Hc.out).mono ?_; rintro e w13 ⟨d13, k13, o13, r13, rfl, hd13, hk13, ho13, hr13, hg13⟩; have q13 : CV w13 (.agg #[d13, k13, o13, r13]) c := ⟨_, _, _, _, rfl, hd13.rl, hk13.ri, ho13.ri, hr13.rl⟩; have g13 : w12.grownBy w13 none := (by first | exact hg13 | exact gb_trans gD12 hg13); have hX13 := hX12.grown g13 (by simp); have hD13 := hD12b.grown g13 (by simp); have x013 := hX13.cell 0; have d013 := hD13.cell 0; have x113 := hX13.cell 1; have d113 := hD13.cell 1; have x213 := hX13.cell 2; have d213 := hD13.cell 2; have x313 := hX13.cell 3; have d313 := hD13.cell 3))
    clear x0 x1 x2 x3 d0 d1 d2 d3
    have mi : MI 0 0 w12 w14 := MI.of_new g14
    have wn14 := wn12.mi mi
    have wd14 := wd12.mi mi
    have wk14 := wk12.mi mi
    have wo14 := wo12.mi mi
    have wr14 := wr12.mi mi
    have hG14 := hG12.grown g14 (by simp)
    have hF14 := hF12.new g14
    have gW14 := gb_trans gW12 g14
    have gc14 := gb_trans gc12 g14
    clear hX12 hX13 hX14 hD13 hD12 hD12b gD12 wn12 wd12 wk12 wo12 wr12 hG12 hF12 gW12 gc12 g12 mi g13 hg13 hg14 g14 q13 hd13 hk13 ho13 hr13
    go_wp2_with fail
    refine (markNodeS_b Wc.heap.size w6.heap.size _ n6 1 w14 wn14 (by omega) _).mono ?_
    rintro e w15 ⟨⟨k15, rfl, hk15⟩, hz15⟩
    have hsW : W.heap.size ≤ Wc.heap.size := gWc.size
    have gW15 := hz15.gb gW14 hsW
    have gc15 := hz15.gb gc14 (Nat.le_refl _)
    have wd15 := wd14.zone hz15 (Nat.le_refl _)
    have wk15 := wk14.zone hz15 (Nat.le_refl _)
    have wo15 := wo14.zone hz15 (Nat.le_refl _)
    have wr15 := wr14.zone hz15 (Nat.le_refl _)
    have hD15 := hD14.zone hz15 (.inr (by omega))
    have hG15 := hG14.zone hz15 (.inr (by omega))
    have hF15 := hF14.zone hz15 (by omega)
    clear wn14 wd14 wk14 wo14 wr14 hG14 hF14 gW14 gc14 hz15 hD14
    have d0 := hD15.cell 0
    have d1 := hD15.cell 1
    have d2 := hD15.cell 2
    have d3 := hD15.cell 3
    go_wp2_with fail
    refine (markCrew_z w6.heap.size w7.heap.size _ _ _ _ Dn1 Dn2 Dn3 Dn4 k15 w15 (by have := wd15.len; exact this ▸ wd15) (by have := wk15.len; exact this ▸ wk15) (by have := wo15.len; exact this ▸ wo15) (by have := wr15.len; exact this ▸ wr15) (by omega) _).mono ?_
    rintro e w16 ⟨⟨k16, rfl, hk16⟩, hM16⟩
    have gW16 := hM16.z.gb gW15 (by omega)
    have gc16 := hM16.z.gb gc15 (by omega)
    have hG16 := hG15.zone hM16.z (.inr (by omega))
    have hF16 := hF15.zone hM16.z (by omega)
    have hV16 := hV.new gc16
    clear d0 d1 d2 d3 wd15 wk15 wo15 wr15 hD15 hG15 hF15 gW15 gc15 hM16
    have y0 := hG16.cell 0
    have y1 := hG16.cell 1
    have y2 := hG16.cell 2
    have y3 := hG16.cell 3
    have v0 := hV16.d0
    have v1 := hV16.d1
    have v2 := hV16.d2
    have v3 := hV16.d3
    go_wp2_with fail
    refine (eqCrew_any _ _ (R.getD crew0) w16 hF16.cv hV16.cv).mono ?_
    rintro e w17 ⟨rfl, hgx⟩
    have hG17 := hG16.grown hgx (by simp)
    have hF17 := hF16.new hgx
    have gW17 := gb_trans gW16 hgx
    have gc17 := gb_trans gc16 hgx
    clear y0 y1 y2 y3 v0 v1 v2 v3 hG16 hF16 gW16 gc16 hV16 hgx
    have y0 := hG17.cell 0
    have y1 := hG17.cell 1
    have y2 := hG17.cell 2
    have y3 := hG17.cell 3
    go_wp2_with fail
    refine (markCrew_own w8.heap.size _ (R.getD crew0) 1 w17 hF17 Hf0.out hs0 (by omega) _).mono ?_
    rintro e w18 ⟨rfl, hcv18, hz18, hkp⟩
    have hG18 := hkp _ _ hG17
    have gW18 := hz18.gb gW17 (by omega)
    have gc18 := hz18.gb gc17 (by omega)
    obtain ⟨m, hm⟩ : ∃ m, m = sizeC (R.getD crew0) := ⟨_, rfl⟩
    have hmb : m ≤ 1000000000 := by rw [hm]; exact hs0
    have HH : Hid (∀ (v : Value) (w : World), CV w v (marksC 1 (R.getD crew0)) → Calls Tryz.prog 35 #[v, .int .i64 1] w fun e w' => e = .returned (.int .i64 (1 + m : Nat)) ∧ w.grownBy w' none) := fun v w h1 => by rw [hm]; exact heldCrew_any v (R.getD crew0) 1 w h1 Hf0.out hs0 (by omega) _
    rw [← hm]
    clear y0 y1 y2 y3 hF17 hG17 gW17 gc17 hz18 hkp hm
    have y0 := hG18.cell 0
    have y1 := hG18.cell 1
    have y2 := hG18.cell 2
    have y3 := hG18.cell 3
    go_wp2_with fail
    refine (HH.out _ w18 hcv18).mono ?_
    rintro e w19 ⟨rfl, hg19⟩
    have hG19 := hG18.grown hg19 (by simp)
    have hcv19 := hcv18.new hg19
    have gW19 := gb_trans gW18 hg19
    have gc19 := gb_trans gc18 hg19
    have g19 := gb_trans g0 gW19
    have hX19 := hX0.grown gW19 (by simp)
    clear y0 y1 y2 y3 hG18 hcv18 gW18 gc18 hg19
    have x0 := hX19.cell 0
    have x1 := hX19.cell 1
    have x2 := hX19.cell 2
    have x3 := hX19.cell 3
    go_upto_region 31 with fail
    go_cut [19, 20] (fun t8 t9 wx => ∃ b U1 Un1 Uc1 U2 Un2 Uc2 U3 Un3 Uc3 U4 Un4 Uc4, t8 = .pointer (some ⟨b, 0, none⟩) ∧ t9 = .bool R.isSome ∧ w19.heap.size ≤ b ∧ BoxC wx b (.slice U1 Un1 Uc1) (.slice U2 Un2 Uc2) (.slice U3 Un3 Uc3) (.slice U4 Un4 Uc4) (R.getD crew0) ∧ w19.grownBy wx none)
    case first =>
      go_region_held3 (fun w' => w'.cell? ⟨w.heap.size, 0, none⟩ = some (.slice X1 Xn1 Xc1) ∧ w'.cell? ⟨w.heap.size, 1, none⟩ = some (.slice X2 Xn2 Xc2) ∧ w'.cell? ⟨w.heap.size, 2, none⟩ = some (.slice X3 Xn3 Xc3) ∧ w'.cell? ⟨w.heap.size, 3, none⟩ = some (.slice X4 Xn4 Xc4)) (go_keep) (first
        | (go_at_call 30; have hz := p3; refine (toCrew_any w.heap.size _ c _ (hc.new (w' := _) (by first | exact gb_trans g19 g3 | exact gb_alloc (gb_trans g19 g3) _) (Nat.le_refl _)) (by first | exact (gb_trans g19 g3).size | exact (gb_alloc (gb_trans g19 g3) _).size) Hc.out).mono ?_; rintro e w4 ⟨d4, k4, o4, r4, rfl, hd4, hk4, ho4, hr4, hg4⟩; have q4 : CV w4 (.agg #[d4, k4, o4, r4]) c := ⟨_, _, _, _, rfl, hd4.rl, hk4.ri, ho4.ri, hr4.rl⟩; have g34 : w3.grownBy w4 none := (by first | exact hg4 | exact gb_trans (World.grownBy_alloc _ _ none) hg4); have p4 := p3.new g34; have g4 := gb_trans g3 g34; have hX4 := hX19.grown g4 (by simp); have x04 := hX4.cell 0; have x14 := hX4.cell 1; have x24 := hX4.cell 2; have x34 := hX4.cell 3; try (first | (have hbx4 := (Blk.new _ 27 #[.slice none 0 0, .slice none 0 0, .slice none 0 0, .slice none 0 0]).grown hg4 (by simp)) | (have hbx4 := hbx3.grown hg4 (by simp))))
        | (go_at_call 29; refine (toNodeS_any w.heap.size _ plan _ (h.new (by first | exact gb_drew g19 | exact g19 | exact gb_alloc (gb_drew g19) _ | exact gb_alloc g19 _) (Nat.le_refl _)) (by first | exact (gb_drew g19).size | exact g19.size | exact (gb_alloc (gb_drew g19) _).size | exact (gb_alloc g19 _).size) Hf.out).mono ?_; rintro e w3 ⟨v3, rfl, hd3, hg3⟩; have g3 : w19.grownBy w3 none := (by first | exact hg3 | exact gb_trans (gb_drew (gb_refl _ none)) hg3 | exact gb_trans (gb_alloc (gb_drew (gb_refl _ none)) _) hg3 | exact gb_trans (gb_alloc (gb_refl _ none) _) hg3); have p3 := hd3.rn; obtain ⟨A3, n3, c3, rfl⟩ := p3.val; have hX3 := hX19.grown g3 (by simp); have x03 := hX3.cell 0; have x13 := hX3.cell 1; have x23 := hX3.cell 2; have x33 := hX3.cell 3; try (first | (have hbx3 : Blk w3 w19.heap.size 27 #[.slice none 0 0, .slice none 0 0, .slice none 0 0, .slice none 0 0] := (Blk.new w19 27 #[.slice none 0 0, .slice none 0 0, .slice none 0 0, .slice none 0 0]).drew.grown hg3 (by simp)) | (have hbx3 : Blk w3 w19.heap.size 27 #[.slice none 0 0, .slice none 0 0, .slice none 0 0, .slice none 0 0] := (Blk.new _ 27 #[.slice none 0 0, .slice none 0 0, .slice none 0 0, .slice none 0 0]).grown hg3 (by simp))))
        | (go_at_call 25; have hz := q4; refine (implTurnSteal_any _ _ plan c wk fz a _ (by first | exact hE.new (gb_trans g19 g4) | exact hE.new (gb_alloc (gb_trans g19 g4) _)) (by first | exact p4 | exact p4.new (World.grownBy_alloc _ _ none)) (by first | exact q4 | exact q4.new (World.grownBy_alloc _ _ none)) Hfit.out.2).mono ?_; rw [← HR.out]; rintro e w5 ⟨v5, rfl, hF5, hg5⟩; have hcv5 := hF5.cv; obtain ⟨U1, Un1, Uc1, U2, Un2, Uc2, U3, Un3, Uc3, U4, Un4, Uc4, rfl⟩ := hF5.form; have g45 : w4.grownBy w5 none := (by first | exact hg5 | exact gb_trans (World.grownBy_alloc _ _ none) hg5); have g5 := gb_trans g4 g45; have hne1 : w.heap.size ≠ w4.heap.size := Nat.ne_of_lt (Nat.lt_of_lt_of_le hX19.lt g4.size); have hne2 := hne1.symm; have hne3 : w.heap.size ≠ w3.heap.size := Nat.ne_of_lt (Nat.lt_of_lt_of_le hX19.lt g3.size); have hne4 := hne3.symm; have hne5 : w.heap.size ≠ w19.heap.size := Nat.ne_of_lt hX19.lt; have hne6 := hne5.symm; have hne7 : w.heap.size ≠ w5.heap.size := Nat.ne_of_lt (Nat.lt_of_lt_of_le hX19.lt g5.size); have hne8 := hne7.symm; have hX5 := hX19.grown g5 (by simp); have x05 := hX5.cell 0; have x15 := hX5.cell 1; have x25 := hX5.cell 2; have x35 := hX5.cell 3; try (first | (have hbx5 := (Blk.new _ 27 #[.slice none 0 0, .slice none 0 0, .slice none 0 0, .slice none 0 0]).grown hg5 (by simp)) | (have hbx5 := hbx4.grown hg5 (by simp))); try (have yy0 := hbx5.cell 0; have ff0 := hbx5.frozen 0; have yy1 := hbx5.cell 1; have ff1 := hbx5.frozen 1; have yy2 := hbx5.cell 2; have ff2 := hbx5.frozen 2; have yy3 := hbx5.cell 3; have ff3 := hbx5.frozen 3)))
      all_goals
        go_wp2_with fail
        go_meet
        first
          | exact ⟨_, _, _, _, _, _, _, _, _, _, _, _, _, rfl, rfl, g4.size, (boxC_fill hbx5 hcv5).1, gb_new g5 (boxC_fill hbx5 hcv5).2 (fun g e => by cases e; exact .inl g4.size)⟩
          | exact ⟨_, _, _, _, _, _, _, _, _, _, _, _, _, rfl, rfl, g3.size, (boxC_fill hbx5 hcv5).1, gb_new g5 (boxC_fill hbx5 hcv5).2 (fun g e => by cases e; exact .inl g3.size)⟩
          | exact ⟨_, _, _, _, _, _, _, _, _, _, _, _, _, rfl, rfl, (Nat.le_refl _), (boxC_fill hbx5 hcv5).1, gb_new g5 (boxC_fill hbx5 hcv5).2 (fun g e => by cases e; exact .inl (Nat.le_refl _))⟩
          | exact ⟨_, _, _, _, _, _, _, _, _, _, _, _, _, rfl, rfl, g5.size, hcv5.box, gb_alloc g5 _⟩
    case rest =>
      obtain ⟨b17, U1, Un1, Uc1, U2, Un2, Uc2, U3, Un3, Uc3, U4, Un4, Uc4, rfl, rfl, hb17, hU, gU⟩ := hcut
      have hG20 := hG19.grown gU (by simp)
      have hcv20 := hcv19.new gU
      have gW20 := gb_trans gW19 gU
      have gc20 := gb_trans gc19 gU
      have hV20 := hV.new gc20
      clear x0 x1 x2 x3 hX19 hG19 hcv19 gW19 gc19 g19 gU
      have u0 := hU.d0
      have u1 := hU.d1
      have u2 := hU.d2
      have u3 := hU.d3
      have v0 := hV20.d0
      have v1 := hV20.d1
      have v2 := hV20.d2
      have v3 := hV20.d3
      go_wp2_with fail
      refine (eqCrew_any _ _ (R.getD crew0) _ hU.cv hV20.cv).mono ?_
      rintro e w21 ⟨rfl, hg21⟩
      have hG21 := hG20.grown hg21 (by simp)
      have hcv21 := hcv20.new hg21
      have g21 := gb_trans (gb_trans g0 gW20) hg21
      clear u0 u1 u2 u3 v0 v1 v2 v3 hG20 hcv20 gW20 gc20 hV20 hU hg21
      have y0 := hG21.cell 0
      have y1 := hG21.cell 1
      have y2 := hG21.cell 2
      have y3 := hG21.cell 3
      go_wp2_with fail
      refine (HH.out _ w21 hcv21).mono ?_
      rintro e w22 ⟨rfl, hg22⟩
      have g22 := gb_trans g21 hg22
      clear y0 y1 y2 y3 hG21 hcv21 g21 hg22 HH
      go_wp2_with fail
      go_ret
      exact ⟨rfl, g22⟩
end Go.Proofs.YtihobnheficpjaaGreatDoor
