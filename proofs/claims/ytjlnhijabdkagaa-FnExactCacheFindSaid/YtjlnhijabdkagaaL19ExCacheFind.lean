/- Walks: laws.FnExactCacheFind. -/
import Derived.Test.YtjlnhijabdkagaaE10Zones
import Derived.Test.YtjlnhijabdkagaaS7Cache
namespace Go.Proofs.Ytjlnhijabdkagaa
open Go.RowKit
theorem found_len {es : List Ent} {k : Int} {rows : List (List Int)} : ((cacheFind es k rows).getD []).length ≤ 6 := by
  cases h : cacheFind es k rows with
  | none => simp
  | some out => exact rowValid_len (kindRun_valid (find_right h).2).1
set_option maxHeartbeats 1600000 in
set_option maxRecDepth 20000 in
theorem fnExactCacheFind_any (w : World) (v rv : Value) (es : List Ent) (kind : Int) (rows : List (List Int)) (h : ArgE w.heap.size w v es) (hr : ArgL w.heap.size w rv rows) :
    Calls Try.prog 21 #[v, .int .i64 kind, rv] w fun e w' => e = .returned (.bool true) ∧ w.grownBy w' none := by
  obtain ⟨A, n, c, rfl, -, -, -⟩ := h.form
  obtain ⟨Ar, nr, cr, rfl, -, -, -⟩ := hr.form
  obtain ⟨fnd, hfnd⟩ : ∃ x, x = cacheFind es kind rows := ⟨_, rfl⟩
  have hln : (fnd.getD []).length ≤ 6 := by rw [hfnd]; exact found_len
  have Hfnd := Lib.hid hfnd
  clear hfnd
  go_enter Try.func21, Try.ntmps21
  go_wp2_with fail
  refine (szEntryS_any w.heap.size _ es 1048576 _ (by exact h) (Nat.le_refl _) (by omega) (by omega)).mono ?_
  rintro e w1 ⟨⟨z, rfl, hz1, hz2, hz3⟩, hg1⟩
  by_cases hz : 0 ≤ z
  · have Hf := Lib.hid (hz3 hz)
    clear hz3
    go_wp2_with fail
    refine (szIntSS_any w.heap.size _ rows z _ (hr.new hg1 (Nat.le_refl _)) hz (by omega)).mono ?_
    rintro e w1' ⟨⟨y, rfl, hy1, hy2, hy3⟩, rfl⟩
    by_cases hy : 0 ≤ y
    · have Hl := Lib.hid (hy3 hy)
      clear hy3
      go_wp2_with fail
      refine (toEntryS_any w.heap.size _ es w1 (h.new hg1 (Nat.le_refl _)) hg1.size Hf.out).mono ?_
      rintro e w2 ⟨v2, y2, rfl, hd2, hg2⟩
      have g2 := gb_trans hg1 hg2
      have hr2 := hd2.re
      obtain ⟨A2, n2, c2, rfl⟩ := hr2.val
      clear hd2
      go_wp2_with fail
      refine (toIntSS_any w.heap.size _ rows w2 (hr.new g2 (Nat.le_refl _)) g2.size Hl.out).mono ?_
      rintro e w3 ⟨v3, rfl, hd3, hg3⟩
      have g3 := gb_trans g2 hg3
      have hr3 := hd3.rl
      obtain ⟨A3, n3, c3, rfl⟩ := hr3.val
      clear hd3
      go_wp2_with fail
      refine (specCacheFind_any _ _ es kind rows _ (hr2.new hg3) hr3).mono ?_
      rw [← Hfnd.out]
      rintro e w4 ⟨v4, rfl, ho4, hg4⟩
      have g4 := gb_trans g3 hg4
      have hi4 := ho4.ri
      obtain ⟨A4, n4, c4, rfl⟩ := hi4.val
      clear hg1 hg2 hg3 hg4 g2 g3 hr2 hr3 ho4
      go_wp2_with fail
      -- x0, x2
      refine (toEntryS_any w.heap.size _ es w4 (h.new g4 (Nat.le_refl _)) g4.size Hf.out).mono ?_
      rintro e w5 ⟨v5, y5, rfl, hd5, hg5⟩
      have g5 := gb_trans g4 hg5
      have hre5 := hd5.re
      obtain ⟨A5, n5, c5, rfl, -, hn5, -⟩ := hre5.form'
      replace hn5 := Lib.hid hn5
      go_wp2_with fail
      refine (toIntSS_any w.heap.size _ rows w5 (hr.new g5 (Nat.le_refl _)) g5.size Hl.out).mono ?_
      rintro e w6 ⟨v6, rfl, hd6, hg6⟩
      have g6 := gb_trans g5 hg6
      have g46 := gb_trans hg5 hg6
      have hrl6 := hd6.rl
      have hd56 := hd5.new hg6
      have hre6 := hd56.re
      have hs4 := g4.size
      have hs5 := hg5.size
      have hs6 := hg6.size
      obtain ⟨A6, n6, c6, rfl, -, hn6, -⟩ := hrl6.form'
      replace hn6 := Lib.hid hn6
      have we6 := (hd5.wen (lo := w4.heap.size) (hi := w5.heap.size) (Nat.le_refl _) (Nat.le_refl _) Hf.out).mi (MI.of_new (lo := 0) (hi := 0) hg6)
      have wl6 : WL w6 w5.heap.size w6.heap.size (.slice A6 n6 c6) rows.length := by
        obtain ⟨xs, hx, _⟩ := hd6
        exact hx.wl (Nat.le_refl _) (Nat.le_refl _) Hl.out
      rw [← hn5.out] at we6
      rw [← hn6.out] at wl6
      clear hn5 hn6 hg5 hg6 g5 hre5 hd5 hd6 hd56
      go_wp2_with fail
      refine (implCacheFind_any _ _ es kind rows _ hre6 hrl6).mono ?_
      rw [← Hfnd.out]
      rintro e w7 ⟨v7, rfl, ho7, hg7⟩
      have g7 := gb_trans g6 hg7
      have g47 := gb_trans g46 hg7
      have hre7 := hre6.new hg7
      have hrl7 := hrl6.new hg7
      obtain ⟨A7, n7, c7, rfl, hn7⟩ : ∃ A n c, v7 = .slice A n c ∧ n = (fnd.getD []).length := by
        obtain ⟨A, n, c, h1, h2, h3⟩ := ho7.ri.form'
        exact ⟨A, n, c, h1, h3⟩
      have we7 := we6.mi (MI.of_new (lo := 0) (hi := 0) hg7)
      have wl7 := wl6.mi (MI.of_new (lo := 0) (hi := 0) hg7)
      have Hn7 := Lib.hid hn7
      clear hn7 we6 wl6 hre6 hrl6 g46 hg7 g6
      go_wp2_with fail
      refine (eqIntS_any _ _ (fnd.getD []) w7 ho7.ri (hi4.new g47)).mono ?_
      rintro e w8 ⟨rfl, hg8⟩
      have g8 := gb_trans g7 hg8
      go_wp2_with fail
      refine (toEntryS_any w.heap.size _ es w8 (h.new g8 (Nat.le_refl _)) g8.size Hf.out).mono ?_
      rintro e w9 ⟨v9, y9, rfl, hd9, hg9⟩
      have g79 := gb_trans hg8 hg9
      have hr9 := hd9.re
      obtain ⟨A9, n9, c9, rfl⟩ := hr9.val
      clear hd9
      go_wp2_with fail
      refine (eqEntryS_any _ _ es w9 (hre7.new g79) hr9).mono ?_
      rintro e w10 ⟨rfl, hg10⟩
      have g710 := gb_trans g79 hg10
      have g10 := gb_trans g7 g710
      clear hr9 hg8 hg9 hg10 g79 g8 hre7
      go_wp2_with fail
      refine (toIntSS_any w.heap.size _ rows w10 (hr.new g10 (Nat.le_refl _)) g10.size Hl.out).mono ?_
      rintro e w11 ⟨v11, rfl, hd11, hg11⟩
      have g711 := gb_trans g710 hg11
      have hr11 := hd11.rl
      obtain ⟨A11, n11, c11, rfl⟩ := hr11.val
      clear hd11
      go_wp2_with fail
      refine (eqIntSS_any _ _ rows w11 (hrl7.new g711) hr11).mono ?_
      rintro e w12 ⟨rfl, hg12⟩
      have g712 := gb_trans g711 hg12
      have g412 := gb_trans g47 g712
      have gw12 := gb_trans g7 g712
      have ho12 := ho7.new g712
      have we12 := we7.mi (MI.of_new (lo := 0) (hi := 0) g712)
      have wl12 := wl7.mi (MI.of_new (lo := 0) (hi := 0) g712)
      clear hr11 hg11 hg12 g711 g710 g10 hrl7 ho7 we7 wl7 g712 g47 g7
      go_wp2_with fail
      refine (markEntryS_any w4.heap.size w5.heap.size _ n5 1 w12 we12 (by omega) _).mono ?_
      rintro e w13 ⟨⟨k, rfl, hk⟩, hz13⟩
      have g413 := hz13.gb g412 (Nat.le_refl _)
      have gw13 := hz13.gb gw12 hs4
      have ho13 := ho12.zone hz13 hs6
      have wl13 := wl12.zone hz13 (Nat.le_refl _)
      clear we12 wl12 hz13 g412 gw12 ho12
      go_wp2_with fail
      refine (markIntSS_any w5.heap.size w6.heap.size _ n6 k w13 wl13 (by omega) _).mono ?_
      rintro e w14 ⟨⟨k2, rfl, hk2⟩, hM14⟩
      have g414 := hM14.z.gb g413 hs5
      have gw14 := hM14.z.gb gw13 (by omega)
      have ho14 := ho13.zone hM14.z (Nat.le_refl _)
      clear wl13 hM14 g413 gw13 ho13
      go_wp2_with fail
      refine (eqIntS_any _ _ (fnd.getD []) w14 ho14.ri (hi4.new g414)).mono ?_
      rintro e w15 ⟨rfl, hg15⟩
      have ho15 := ho14.new hg15
      have g415 := gb_trans g414 hg15
      have gw15 := gb_trans gw14 hg15
      have wi15 := ho15.wi (lo := w6.heap.size) (hi := w15.heap.size) (Nat.le_refl _) (Nat.le_refl _) (by omega)
      rw [← Hn7.out] at wi15 hln
      clear ho14 hg15 g414 gw14
      go_wp2_with fail
      refine (markIntS_any w6.heap.size w15.heap.size _ n7 1 w15 wi15 (by omega) _).mono ?_
      rintro e w16 ⟨rfl, hM, -, hO⟩
      have ho16 := hO _ _ ho15
      have g416 := hM.z.gb g415 (by omega)
      have gw16 := hM.z.gb gw15 (by omega)
      clear hM hO ho15 g415 gw15 wi15
      go_wp2_with fail
      refine (heldIntS_any _ n7 1 w16 ho16.ri (by omega) (by omega) _).mono ?_
      rintro e w17 ⟨rfl, rfl⟩
      go_wp2_with fail
      refine (toEntryS_any w.heap.size _ es w16 (h.new gw16 (Nat.le_refl _)) gw16.size Hf.out).mono ?_
      rintro e w17 ⟨v17, y17, rfl, hd17, hg17⟩
      have gw17 := gb_trans gw16 hg17
      have hr17 := hd17.re
      obtain ⟨A17, n17, c17, rfl⟩ := hr17.val
      clear hd17
      go_wp2_with fail
      refine (toIntSS_any w.heap.size _ rows w17 (hr.new gw17 (Nat.le_refl _)) gw17.size Hl.out).mono ?_
      rintro e w18 ⟨v18, rfl, hd18, hg18⟩
      have gw18 := gb_trans gw17 hg18
      have hr18 := hd18.rl
      obtain ⟨A18, n18, c18, rfl⟩ := hr18.val
      clear hd18
      go_wp2_with fail
      refine (implCacheFind_any _ _ es kind rows _ (hr17.new hg18) hr18).mono ?_
      rw [← Hfnd.out]
      rintro e w19 ⟨v19, rfl, ho19, hg19⟩
      have g1619 := gb_trans (gb_trans hg17 hg18) hg19
      have ho1619 := ho16.new g1619
      have g419 := gb_trans g416 g1619
      have gw19 := gb_trans gw16 g1619
      have hi19 := ho19.ri
      obtain ⟨A19, n19, c19, rfl⟩ := hi19.val
      clear hg17 hg18 hg19 gw17 gw18 hr17 hr18 ho16 g1619 g416 gw16 ho19
      go_wp2_with fail
      refine (eqIntS_any _ _ (fnd.getD []) w19 hi19 (hi4.new g419)).mono ?_
      rintro e w20 ⟨rfl, hg20⟩
      have ho20 := ho1619.new hg20
      go_wp2_with fail
      refine (heldIntS_any _ n7 1 w20 ho20.ri (by omega) (by omega) _).mono ?_
      rintro e w21 ⟨rfl, rfl⟩
      go_wp2_with fail
      go_ret
      exact ⟨rfl, gb_trans gw19 hg20⟩
    · clear hy3
      go_wp2_with fail
      go_ret
      exact ⟨rfl, hg1⟩
  · clear hz3
    go_wp2_with fail
    go_ret
    exact ⟨rfl, hg1⟩
end Go.Proofs.Ytjlnhijabdkagaa
