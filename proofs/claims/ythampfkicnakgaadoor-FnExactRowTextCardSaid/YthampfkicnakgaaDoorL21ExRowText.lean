/- Walks: laws.FnExactRowText. -/
import Derived.Test.YthampfkicnakgaaDoorT13List
namespace Go.Proofs.YthampfkicnakgaaDoor
open Go.RowKit
set_option maxRecDepth 20000 in
theorem fnExactRowText_any (w : World) (v : Value) (l : List Int) (h : ArgI w.heap.size w v l) (hp : PTab w) :
    Calls Tryd.prog 3 #[v] w fun e w' => e = .returned (.bool true) ∧ w.grownBy w' none := by
  obtain ⟨A, n, c, rfl, _, hn, hn9⟩ := h.form
  by_cases hbig : 1048576 < n
  · clear hn
    go_enter Tryd.func3, Tryd.ntmps3
    go_wp2_with fail
    go_ret
    exact ⟨rfl, gb_refl _ _⟩
  · have Hl : Hid (l.length ≤ 1048576) := by show _ ≤ _; omega
    clear hn
    go_enter Tryd.func3, Tryd.ntmps3
    go_wp2_with fail
    refine (toIntS_any w.heap.size _ l w h (Nat.le_refl _) Hl.out).mono ?_
    rintro e w1 ⟨v1, rfl, ho1, hg1⟩
    obtain ⟨A1, n1, c1, rfl⟩ := ho1.ri.val
    go_wp2_with fail
    refine (specRowText_any _ l _ ho1.ri).mono ?_
    rintro e w2 ⟨rfl, hg2⟩
    have g2 := gb_trans hg1 hg2
    go_wp2_with fail
    refine (toIntS_any w.heap.size _ l w2 (h.new g2 (Nat.le_refl _)) g2.size Hl.out).mono ?_
    rintro e w3 ⟨v3, rfl, ho3, hg3⟩
    obtain ⟨A3, n3, c3, rfl⟩ := ho3.ri.val
    have g3 := gb_trans g2 hg3
    go_wp2_with fail
    refine (implRowText_any _ l _ ho3.ri (hp.new g3)).mono ?_
    rintro e w4 ⟨rfl, hg4⟩
    have g4 := gb_trans g3 hg4
    go_wp2_with fail
    refine (toIntS_any w.heap.size _ l w4 (h.new g4 (Nat.le_refl _)) g4.size Hl.out).mono ?_
    rintro e w5 ⟨v5, rfl, ho5, hg5⟩
    obtain ⟨A5, n5, c5, rfl⟩ := ho5.ri.val
    have g45 := gb_trans hg4 hg5
    go_wp2_with fail
    refine (eqIntS_any _ _ l w5 (ho3.new g45).ri ho5.ri).mono ?_
    rintro e w6 ⟨rfl, hg6⟩
    go_wp2_with fail
    go_ret
    exact ⟨rfl, gb_trans (gb_trans g4 hg5) hg6⟩
end Go.Proofs.YthampfkicnakgaaDoor
