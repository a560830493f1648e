/- Walks: laws.FnRowFrom. -/
import Derived.Test.YthampfkicnakgaaGreatDoorT18Draw
namespace Go.Proofs.YthampfkicnakgaaGreatDoor
open Go.RowKit
set_option maxHeartbeats 800000 in
set_option maxRecDepth 20000 in
theorem fnRowFrom_any (w : World) (v : Value) (n : Nat) (h : Bytes w w.heap.size v n) (hn : n ≤ 9223372036854775807) (hp : PTab w) (hF : FW w) :
    Calls Tryz.prog 3 #[v] w fun e w' => e = .returned (.bool true) ∧ w.grownBy w' none := by
  obtain ⟨A, c, rfl, h2⟩ := id h
  have H := Lib.hid h
  clear h h2
  by_cases hbig : 1048576 < n
  · go_enter Tryz.func3, Tryz.ntmps3
    go_wp2_with fail
    go_ret
    exact ⟨rfl, gb_refl _ _⟩
  · go_enter Tryz.func3, Tryz.ntmps3
    go_wp2_with fail
    refine (drawRowFrom_any _ _ n H.out (by omega)).mono ?_
    rintro e w1 ⟨S, rfl, hS, g1⟩
    go_wp2_with fail
    refine (implRowFrom_any S w1 (by omega) (hF.new g1)).mono ?_
    rintro e w2 ⟨v2, rfl, ho2, hg2⟩
    have g2 := gb_trans g1 hg2
    obtain ⟨A2, n2, c2, rfl⟩ := ho2.ri.val
    go_wp2_with fail
    refine (specRowFrom_any S w2 (by omega)).mono ?_
    rintro e w3 ⟨v3, rfl, ho3, hg3⟩
    have g3 := gb_trans g2 hg3
    have ho2' := ho2.new hg3
    obtain ⟨A3, n3, c3, rfl⟩ := ho3.ri.val
    clear g1 hg2 g2 hg3 ho2
    cases hr : rowFrom S with
    | none =>
      rw [hr] at ho2' ho3
      go_wp2_with fail
      refine (sameRow_any _ _ _ w3 ho2'.ri ho3.ri).mono ?_
      rintro e w4 ⟨rfl, hg4⟩
      go_wp2_with fail
      refine (sameRow_any _ _ _ w4 (ho2'.new hg4).ri (ho3.new hg4).ri).mono ?_
      rintro e w5 ⟨rfl, hg5⟩
      go_wp2_with fail
      go_ret
      exact ⟨rfl, gb_trans (gb_trans g3 hg4) hg5⟩
    | some l =>
      rw [hr] at ho2' ho3
      obtain ⟨hv, ht⟩ := rowFrom_text hr
      have Hv := Lib.hid hv
      have Ht : Hid (rowTextOf l = S) := by
        show _ = _
        unfold rowTextOf
        rw [if_pos hv]
        exact ht
      clear hv ht
      go_wp2_with fail
      refine (sameRow_any _ _ _ w3 ho2'.ri ho3.ri).mono ?_
      rintro e w4 ⟨rfl, hg4⟩
      have g4 := gb_trans g3 hg4
      have ho4 := ho2'.new hg4
      clear ho2' ho3 hg4 g3
      go_wp2_with fail
      refine (implRowValid_b _ l w4 ho4.ri Hv.out).mono ?_
      rintro e w5 ⟨rfl, rfl⟩
      go_wp2_with fail
      refine (implRowText_any _ l w4 ho4.ri (hp.new g4)).mono ?_
      rintro e w6 ⟨rfl, hg6⟩
      rw [Ht.out]
      go_wp2_with fail
      go_ret
      exact ⟨rfl, gb_trans g4 hg6⟩
end Go.Proofs.YthampfkicnakgaaGreatDoor
