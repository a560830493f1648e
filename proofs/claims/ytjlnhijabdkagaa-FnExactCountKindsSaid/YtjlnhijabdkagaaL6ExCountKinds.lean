/- Walks: laws.FnExactCountKinds. -/
import Derived.Test.YtjlnhijabdkagaaE5Same
import Derived.Test.YtjlnhijabdkagaaE7MarkN
import Derived.Test.YtjlnhijabdkagaaH2IKinds
namespace Go.Proofs.Ytjlnhijabdkagaa
open Go.RowKit

set_option maxHeartbeats 800000 in
theorem fnExactCountKinds_any (w : World) (v : Value) (plan : List Node) (h : ArgN w.heap.size w v plan) :
    Calls Try.prog 8 #[v] w fun e w' => e = .returned (.bool true) ∧ w.grownBy w' none := by
  obtain ⟨A, n, c, rfl, -, -, -⟩ := h.form
  go_enter Try.func8, Try.ntmps8
  go_wp2_with fail
  refine (szNodeS_any w.heap.size _ plan 1048576 _ (by exact h) (Nat.le_refl _) (by omega) (by omega)).mono ?_
  rintro e w1 ⟨⟨z, rfl, hz1, hz2, hz3⟩, hg1⟩
  by_cases hz : 0 ≤ z
  · have hfit := hz3 hz
    have Hf := Lib.hid hfit
    have hl : plan.length ≤ 1048576 := hfit.1
    clear hz3 hfit
    go_wp2_with fail
    refine (toNodeS_any w.heap.size _ plan w1 (h.new hg1 (Nat.le_refl _)) hg1.size Hf.out).mono ?_
    rintro e w2 ⟨v2, rfl, hd2, hg2⟩
    have g2 := gb_trans hg1 hg2
    obtain ⟨A2, n2, c2, rfl⟩ := hd2.rn.val
    go_wp2_with fail
    refine (specCountKinds_any _ plan w2 hd2.rn (by omega)).mono ?_
    rintro e w3 ⟨v3, rfl, ho3, hg3⟩
    have g3 := gb_trans g2 hg3
    have hs3 := g3.size
    have hs23 := hg3.size
    obtain ⟨A3, n3, c3, rfl, hn3, -⟩ := ho3.slice
    have Hn3 := Lib.hid hn3
    clear hn3
    clear hg1 hg2 hg3 g2 hd2
    go_wp2_with fail
    refine (toNodeS_any w.heap.size _ plan w3 (h.new g3 (Nat.le_refl _)) g3.size Hf.out).mono ?_
    rintro e w4 ⟨v4, rfl, hd4, hg4⟩
    have g4 := gb_trans g3 hg4
    have hs34 := hg4.size
    have wn4 := hd4.wnd (Nat.le_refl _) (Nat.le_refl _) Hf.out
    obtain ⟨A4, n4, c4, rfl, -, hn4, -⟩ := hd4.rn.form'
    rw [← hn4] at wn4
    clear hn4
    go_wp2_with fail
    refine (implCountKinds_any _ plan w4 hd4.rn).mono ?_
    rintro e w5 ⟨v5, rfl, ho5, hg5⟩
    have g5 := gb_trans g4 hg5
    have hd5 := hd4.new hg5
    have g35 := gb_trans hg4 hg5
    obtain ⟨A5, n5, c5, rfl, hn5, -⟩ := ho5.slice
    have Hn5 := Lib.hid hn5
    clear hn5
    clear hg4 g3 g4 hd4
    go_wp2_with fail
    refine (eqIntS_any _ _ (countKinds plan) w5 ho5.ri (ho3.new g35).ri).mono ?_
    rintro e w6 ⟨rfl, hg6⟩
    go_wp2_with fail
    refine (toNodeS_any w.heap.size _ plan w6 (h.new (gb_trans g5 hg6) (Nat.le_refl _)) (gb_trans g5 hg6).size Hf.out).mono ?_
    rintro e w7 ⟨v7, rfl, hd7, hg7⟩
    obtain ⟨A7, n7, c7, rfl⟩ := hd7.rn.val
    have g57 := gb_trans hg6 hg7
    go_wp2_with fail
    refine (eqNodeS_any _ _ plan w7 (hd5.new g57).rn hd7.rn).mono ?_
    rintro e w8 ⟨rfl, hg8⟩
    have g58 := gb_trans g57 hg8
    clear hg6 hg7 hg8 g57 hd7 hd5
    have wn8 : WNd w8 w3.heap.size w4.heap.size (.slice A4 n4 c4) n4 := wn4.mi (MI.of_new (lo := 0) (hi := 0) (gb_trans hg5 g58))
    have g38 := gb_trans g35 g58
    have gw8 := gb_trans g5 g58
    have ho8 := ho5.new g58
    clear wn4 g58 ho5
    go_wp2_with fail
    refine (markNodeS_any w3.heap.size w4.heap.size _ n4 1 w8 wn8 (by omega) _).mono ?_
    rintro e w9 ⟨⟨k, rfl⟩, hz9⟩
    have g39 := hz9.gb g38 (Nat.le_refl _)
    have gw9 := hz9.gb gw8 hs3
    have ho9 := ho8.zone hz9 (Nat.le_refl _)
    clear wn8 hz9 g38 gw8 ho8
    go_wp2_with fail
    refine (eqIntS_any _ _ (countKinds plan) w9 ho9.ri (ho3.new g39).ri).mono ?_
    rintro e w10 ⟨rfl, hg10⟩
    have ho10 := ho9.new hg10
    have g310 := gb_trans g39 hg10
    have gw10 := gb_trans gw9 hg10
    have hs45 := gw10.size
    have hln : (countKinds plan).length ≤ 6 := by
      unfold countKinds
      split
      · rw [tally_len]; exact Nat.le_refl _
      · simp
    have wi10 := ho10.wi (lo := w4.heap.size) (hi := w10.heap.size) (Nat.le_refl _) (Nat.le_refl _) (by omega)
    rw [← Hn5.out] at wi10 hln
    clear ho9 hg10 g39 gw9
    go_wp2_with fail
    refine (markIntS_any w4.heap.size w10.heap.size _ n5 1 w10 wi10 (by omega) _).mono ?_
    rintro e w11 ⟨rfl, hM, -, hO⟩
    have ho11 := hO _ _ ho10
    have g311 := hM.z.gb g310 hs34
    have gw11 := hM.z.gb gw10 (Nat.le_trans hs3 hs34)
    clear hM hO ho10 g310 gw10 wi10
    go_wp2_with fail
    refine (heldIntS_any _ n5 1 w11 ho11.ri (by omega) (by omega) _).mono ?_
    rintro e w12 ⟨rfl, rfl⟩
    go_wp2_with fail
    refine (toNodeS_any w.heap.size _ plan w11 (h.new gw11 (Nat.le_refl _)) gw11.size Hf.out).mono ?_
    rintro e w12 ⟨v12, rfl, hd12, hg12⟩
    obtain ⟨A12, n12, c12, rfl⟩ := hd12.rn.val
    go_wp2_with fail
    refine (implCountKinds_any _ plan w12 hd12.rn).mono ?_
    rintro e w13 ⟨v13, rfl, ho13, hg13⟩
    obtain ⟨A13, n13, c13, rfl, -, -⟩ := ho13.slice
    have g1113 := gb_trans hg12 hg13
    have ho11' := ho11.new g1113
    have g313 := gb_trans g311 g1113
    have gw13 := gb_trans gw11 g1113
    clear hg12 hg13 hd12 ho11 g1113
    go_wp2_with fail
    refine (eqIntS_any _ _ (countKinds plan) w13 ho13.ri (ho3.new g313).ri).mono ?_
    rintro e w14 ⟨rfl, hg14⟩
    have ho14 := ho11'.new hg14
    clear ho11' ho13 g313
    go_wp2_with fail
    refine (heldIntS_any _ n5 1 w14 ho14.ri (by omega) (by omega) _).mono ?_
    rintro e w15 ⟨rfl, rfl⟩
    go_wp2_with fail
    go_ret
    exact ⟨rfl, gb_trans gw13 hg14⟩
  · clear hz3
    go_wp2_with fail
    go_ret
    exact ⟨rfl, hg1⟩
end Go.Proofs.Ytjlnhijabdkagaa
