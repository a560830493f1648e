/- Walks: spec.l6Open. -/
import Derived.Test.YtjlnhijabdkagaaB2Pick
namespace Go.Proofs.Ytjlnhijabdkagaa
open Go.RowKit

def OpenPost (w : World) (e : Ending) (w' : World) : Prop :=
  ∃ rb : Nat, e = .returned (.pointer (some ⟨rb, 0, none⟩)) ∧ Rdr w.heap.size w' rb 0 ∧ w.grownBy w' none

theorem l6Open_any (w : World) (v : Value) (n : Nat) (h : Bytes w w.heap.size v n) (hn : n ≤ 1048576) :
    Calls Try.prog 69 #[v] w (OpenPost w) := by
  obtain ⟨A, c, rfl, hnc, hcells⟩ := h
  have key : ∀ k : Nat, k ≤ n → k ≤ 2000 → ∀ A' c', A' = A → k ≤ c' → OpenPost w (.returned (.pointer (some ⟨w.heap.size, 0, none⟩))) (w.alloc (.cells #[.slice A' k c', .int .i64 0] 115)) := by
    intro k hk hk2 A' c' hA hc'
    subst hA
    refine ⟨_, rfl, ⟨_, k, hk2, Blk.new w _ _, Nat.le_refl _, by simp, A', c', rfl, hc', fun hk0 => ?_⟩, gb_alloc (gb_refl w none) _⟩
    obtain ⟨ad, hA, hb, hc⟩ := hcells (by omega)
    refine ⟨ad, hA, hb, fun j hj => ?_⟩
    obtain ⟨b, h1, h2, h3⟩ := hc j (by omega)
    exact ⟨b, h1, h2, (World.cell?_alloc_lt _ _ _ (by rw [block_add]; exact hb)).trans h3⟩
  have Key := Lib.hid key
  clear key
  by_cases hlt : (2000 : Int) < n
  · go_enter Try.func69, Try.ntmps69
    go_wp2_with fail
    go_ret
    exact Key.out 2000 (by omega) (by omega) A c rfl (by omega)
  · go_enter Try.func69, Try.ntmps69
    go_wp2_with fail
    go_ret
    exact Key.out n (Nat.le_refl _) (by omega) A c rfl hnc
end Go.Proofs.Ytjlnhijabdkagaa
