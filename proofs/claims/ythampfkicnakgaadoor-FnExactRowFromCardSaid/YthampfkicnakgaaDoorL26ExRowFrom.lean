/- Walks: laws.FnExactRowFrom. -/
import Derived.Test.YthampfkicnakgaaDoorT17Read
import Derived.Test.YthampfkicnakgaaDoorE6Marks
namespace Go.Proofs.YthampfkicnakgaaDoor
open Go.RowKit
theorem rowFrom_len (S : List UInt8) : ((rowFrom S).getD []).length ≤ 6 := by
  cases h : rowFrom S with
  | none => simp
  | some l => exact rowValid_len (rowFrom_text h).1
set_option maxHeartbeats 800000 in
set_option maxRecDepth 20000 in
theorem fnExactRowFrom_any (w : World) (S : List UInt8) (hS9 : S.length ≤ 9223372036854775807) (hF : FW w) :
    Calls Tryd.prog 8 #[.string (bstr S)] w fun e w' => e = .returned (.bool true) ∧ w.grownBy w' none := by
  have hsz : (bstr S).size = S.length := bstr_size S
  by_cases hbig : 1048576 < S.length
  · go_enter Tryd.func8, Tryd.ntmps8
    go_wp2_with fail
    go_ret
    exact ⟨rfl, gb_refl _ _⟩
  · have hS : S.length ≤ 1048576 := by omega
    have hln := rowFrom_len S
    go_enter Tryd.func8, Tryd.ntmps8
    go_wp2_with fail
    refine (specRowFrom_any S w hS).mono ?_
    rintro e w1 ⟨v1, rfl, ho1, g1⟩
    have hs1 := g1.size
    obtain ⟨A1, n1, c1, rfl⟩ := ho1.ri.val
    go_wp2_with fail
    refine (implRowFrom_any S w1 hS (hF.new g1)).mono ?_
    rintro e w2 ⟨v2, rfl, ho2, hg2⟩
    have g2 := gb_trans g1 hg2
    obtain ⟨A2, n2, c2, rfl, -, hn2⟩ := ho2.ri.form'
    have Hn2 := Lib.hid hn2
    rw [← hn2] at hln
    clear hn2 g1
    obtain ⟨L, hL⟩ : ∃ L, (rowFrom S).getD [] = L := ⟨_, rfl⟩
    obtain ⟨bs, hbs⟩ : ∃ b, (rowFrom S).isSome = b := ⟨_, rfl⟩
    rw [hL] at ho1 ho2 Hn2
    rw [hbs]
    have HL := Lib.hid hL
    have Hbs := Lib.hid hbs
    clear hL hbs
    go_wp2_with fail
    refine (eqIntS_any _ _ L w2 ho2.ri (ho1.new hg2).ri).mono ?_
    rintro e w3 ⟨rfl, hg3⟩
    have ho3 := ho2.new hg3
    have g13 := gb_trans hg2 hg3
    have g3 := gb_trans g2 hg3
    clear ho2 hg2 hg3 g2
    have wi3 := ho3.wi (lo := w1.heap.size) (hi := w3.heap.size) (Nat.le_refl _) (Nat.le_refl _) (by have := Hn2.out; omega)
    rw [← Hn2.out] at wi3
    go_wp2_with fail
    refine (markIntS_any w1.heap.size w3.heap.size _ n2 1 w3 wi3 (by omega) _).mono ?_
    rintro e w4 ⟨rfl, hM, -, hO⟩
    have ho4 := hO _ _ ho3
    have g14 := hM.z.gb g13 (Nat.le_refl _)
    have g4 := hM.z.gb g3 hs1
    clear hM hO ho3 g13 g3 wi3
    go_wp2_with fail
    refine (heldIntS_any _ n2 1 w4 ho4.ri (by omega) (by omega) _).mono ?_
    rintro e w5 ⟨rfl, rfl⟩
    go_wp2_with fail
    refine (implRowFrom_any S w4 hS (hF.new g4)).mono ?_
    rintro e w6 ⟨v6, rfl, ho6, hg6⟩
    obtain ⟨A6, n6, c6, rfl⟩ := ho6.ri.val
    have g16 := gb_trans g14 hg6
    have g6 := gb_trans g4 hg6
    have ho4' := ho4.new hg6
    clear ho4 g14 g4 hg6
    rw [HL.out] at ho6
    rw [Hbs.out]
    go_wp2_with fail
    refine (eqIntS_any _ _ L w6 ho6.ri (ho1.new g16).ri).mono ?_
    rintro e w7 ⟨rfl, hg7⟩
    have ho7 := ho4'.new hg7
    clear ho4' ho6 g16
    go_wp2_with fail
    refine (heldIntS_any _ n2 1 w7 ho7.ri (by omega) (by omega) _).mono ?_
    rintro e w8 ⟨rfl, rfl⟩
    go_wp2_with fail
    go_ret
    exact ⟨rfl, gb_trans g6 hg7⟩
end Go.Proofs.YthampfkicnakgaaDoor
