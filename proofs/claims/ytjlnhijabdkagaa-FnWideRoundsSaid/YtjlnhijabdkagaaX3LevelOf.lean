/- Walks: impl.LevelOf. -/
import Derived.Test.YtjlnhijabdkagaaX2Levels
import Derived.Test.YtjlnhijabdkagaaG2Uses
namespace Go.Proofs.Ytjlnhijabdkagaa
open Go.RowKit

theorem levelOf_any (v : Value) (plan : List Node) (at_ : Nat) (w : World) (h : RN w v plan) (hv : planValid plan = true) (hat : at_ < plan.length) :
    Calls Try.prog 87 #[v, .int .i64 at_] w fun e w' => e = .returned (.int .i64 (lv plan at_)) ∧ w.grownBy w' none := by
  obtain ⟨A, n, c, rfl, -, hn, -⟩ := h.form'
  have hat' : at_ < n := by omega
  have Hn := Lib.hid hn
  have Hv := Lib.hid hv
  clear hn hv hat
  go_enter Try.func87, Try.ntmps87
  go_wp2_with fail
  refine (levelList_any _ plan _ h).mono ?_
  rintro e w1 ⟨v1, rfl, hg1, ho1⟩
  rw [Hv.out, if_pos rfl] at ho1
  rw [Hv.out]
  have hx : (levels plan)[at_]? = some (lv plan at_) := by
    unfold lv
    rw [List.getD_eq_getElem?_getD, List.getElem?_eq_getElem (by rw [levels_len, ← Hn.out]; exact hat')]
    rfl
  obtain ⟨A1, n1, c1, rfl, -, hn1⟩ := ho1.ri.form'
  rw [levels_len, ← Hn.out] at hn1
  subst hn1
  obtain ⟨g, o, y, rfl, hy, c0⟩ := ho1.ri.at_ hat'
  rw [hx] at hy
  injection hy with hy
  subst hy
  clear hx ho1
  go_wp2_with fail
  refine (isNode_b A n1 c at_ _ (b := true) (by simp; omega)).mono ?_
  rintro e w2 ⟨rfl, rfl⟩
  go_wp2_with fail
  go_ret
  exact ⟨rfl, hg1⟩
end Go.Proofs.Ytjlnhijabdkagaa
