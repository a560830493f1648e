/- Walks: link. -/
import Derived.Test.YthampfkicnakgaaGreatDoorC4Graph
namespace Go.Proofs.YthampfkicnakgaaGreatDoor
open Go.RowKit

theorem Gr.row {w : World} {base k a : Nat} {B : Nat → Nat} {R : Nat → Value × List Nat} (h : Gr w base k B R) (ha : a < 2 * k + 1) : w.ownsRow base 154 1 (R a).1 (R a).2.length (ptrs B (R a).2) := h.rw_.rows a ha
/-- An append onto a node's row. -/
theorem wp_push_row {ops : Array Oper} {rest : List Oper} {o : Oper} {a : Act} {Q : Exit → Act → World → Prop} {w : World} {base k i c j : Nat} {B : Nat → Nat} {R : Nat → Value × List Nat} (G : Gr w base k B R) (hi : i < k) (hc : c = 1 ∨ c = 2) (hj : j < k)
    (hl : (R (2 * i + c)).2.length < 1000) (s x : Operand) (hgd : o.guard = none) (ho : o.op = .call { callee := .builtin .append, args := #[s, x], argTypes := #[130, 130] })
    {v : Value} (hv : (R (2 * i + c)).1 = v) (hs : a.eval s = v) {N : Nat} (hx : a.eval x = .slice (some ⟨N, 0, none⟩) 1 1) (hN : N = w.heap.size)
    (h : ∀ A n cc w', w'.cell? ⟨B i, c, none⟩ = some v → w'.frozen? ⟨B i, c, none⟩ = false → Gr (w'.setCell ⟨B i, c, none⟩ (.slice A n cc)) base k B (upd R (2 * i + c) (.slice A n cc, (R (2 * i + c)).2 ++ [j])) →
      Below base w (w'.setCell ⟨B i, c, none⟩ (.slice A n cc)) → wpList Tryz.prog ops Q rest (a.put o.dst (.slice A n cc)) w') :
    wpList Tryz.prog ops Q (o :: rest) a (w.alloc (.cells #[.pointer (some ⟨B j, 0, none⟩)] 154)) := by
  subst hv
  subst hN
  have hrow := G.row (a := 2 * i + c) (by omega)
  refine wp_push_fresh s x 130 _ 1 8 Tryz.underlying130 infoPtr rfl (by decide) (by decide) hgd ho hrow (by omega) G.base_le rfl (by simp [Value.oneCell']) hs hx ?_
  intro v' w' h1 h2 h3
  obtain ⟨A, cc, hv'⟩ : ∃ A cc, v' = .slice A ((R (2 * i + c)).2.length + 1) cc := by
    rcases h1.2 with ⟨hv, h0⟩ | ⟨g, cap, cur, hv, _⟩
    · omega
    · exact ⟨_, _, hv⟩
  subst hv'
  obtain ⟨hb, hG⟩ := G.pushN hi hc hj hl h2 h1 (Nat.le_succ _) h3
  refine h A _ cc w' ?_ (hb.frozen c) hG ?_
  · rcases hc with rfl | rfl
    · exact hb.cell 1
    · exact hb.cell 2
  · refine ((gb_of_base h2 ?_ G.base_le).setCell (p := ⟨B i, c, none⟩) (G.low i hi) _)
    intro g e
    exact (hrow.lt g e).1

def LinkPost (w : World) (base k n f : Nat) (B : Nat → Nat) (R : Nat → Value × List Nat) (e : Ending) (w' : World) : Prop :=
  e = .returned (.tuple #[]) ∧ ∃ R', Gr w' base k B R' ∧ Below base w w' ∧ (∀ a, (R' a).2 = linkL n f (fun a => (R a).2) a) ∧ R' 0 = R 0

theorem link_any {w : World} {base k n f : Nat} {B : Nat → Nat} {R : Nat → Value × List Nat} (h : Gr w base k B R) (hn : n < k) (hf : f < k) (hl1 : (R (2 * n + 1)).2.length < 1000) (hl2 : (R (2 * f + 2)).2.length < 1000) :
    Calls Tryz.prog 100 #[.pointer (some ⟨B n, 0, none⟩), .pointer (some ⟨B f, 0, none⟩)] w (LinkPost w base k n f B R) := by
  by_cases hm : f ∈ (R (2 * n + 1)).2
  · have Hm := Lib.hid hm
    clear hm
    go_enter Tryz.func100, Tryz.ntmps100
    go_wp2_with fail
    refine (needsAlready_any h hn hf (b := true) (by simpa using Hm.out)).mono ?_
    rintro e w' ⟨rfl, rfl⟩
    go_wp2_with fail
    refine bodyPost_ret (results_none rfl _ _ _) rfl ⟨rfl, R, h, Below.refl _ _, fun a => ?_, rfl⟩
    unfold linkL
    rw [if_pos Hm.out]
  · have Hm := Lib.hid hm
    clear hm
    go_enter Tryz.func100, Tryz.ntmps100
    go_wp2_with fail
    refine (needsAlready_any h hn hf (b := false) (by simpa using Hm.out)).mono ?_
    rintro e w' ⟨rfl, rfl⟩
    have c1 : w.cell? ⟨B n, 1, none⟩ = some (R (2 * n + 1)).1 := (h.blk n hn).cell 1
    obtain ⟨v1, hv1⟩ : ∃ v1, (R (2 * n + 1)).1 = v1 := ⟨_, rfl⟩
    rw [hv1] at c1
    have Hv1 := Lib.hid hv1
    clear hv1
    go_wp2_with (at_builtin; go_must (refine wp_push_row h hn (.inl rfl) hf hl1 (.tmp 11) (.tmp 13) rfl rfl Hv1.out rfl rfl rfl ?_))
    intro A1 n1 cc1 w1 d1 d2 G1 hbel1
    have d3 : (w1.setCell ⟨B n, 1, none⟩ (.slice A1 n1 cc1)).cell? ⟨B f, 2, none⟩ = some (R (2 * f + 2)).1 := by
      rw [(G1.blk f hf).cell 2]
      show some (upd R (2 * n + 1) (.slice A1 n1 cc1, (R (2 * n + 1)).2 ++ [f]) (2 * f + 2)).1 = _
      rw [upd_other _ _ (show 2 * f + 2 ≠ 2 * n + 1 by omega)]
    obtain ⟨v2, hv2⟩ : ∃ v2, (R (2 * f + 2)).1 = v2 := ⟨_, rfl⟩
    rw [hv2] at d3
    have Hv2 : Hid ((upd R (2 * n + 1) (.slice A1 n1 cc1, (R (2 * n + 1)).2 ++ [f]) (2 * f + 2)).1 = v2) := by
      show (upd R (2 * n + 1) (.slice A1 n1 cc1, (R (2 * n + 1)).2 ++ [f]) (2 * f + 2)).1 = v2
      rw [upd_other _ _ (show 2 * f + 2 ≠ 2 * n + 1 by omega)]
      exact hv2
    clear hv2
    go_wp2_with (at_builtin; go_must (refine wp_push_row (i := f) (c := 2) (j := n) G1 hf (.inr rfl) hn ?_ (.tmp 21) (.tmp 23) rfl rfl Hv2.out rfl rfl (World.size_setCell _ _ _).symm ?_))
    · rw [upd_other _ _ (show 2 * f + 2 ≠ 2 * n + 1 by omega)]
      exact hl2
    · intro A2 n2 cc2 w2 d4 d5 G2 hbel2
      go_wp2_with fail
      refine bodyPost_ret (results_none rfl _ _ _) rfl ⟨rfl, _, G2, hbel1.trans hbel2, fun a => ?_, by rw [upd_other _ _ (by omega), upd_other _ _ (by omega)]⟩
      unfold linkL
      rw [if_neg Hm.out]
      unfold upd
      by_cases h1 : a = 2 * f + 2
      · rw [if_pos h1, if_pos h1, if_neg (show 2 * f + 2 ≠ 2 * n + 1 by omega)]
      · rw [if_neg h1, if_neg h1]
        by_cases h2 : a = 2 * n + 1
        · rw [if_pos h2, if_pos h2]
        · rw [if_neg h2, if_neg h2]
end Go.Proofs.YthampfkicnakgaaGreatDoor
