/- Walks: impl.isNode, impl.PlanUses. -/
import Derived.Test.YtjlnhijabdkagaaC6GraphOf
import Derived.Test.YtjlnhijabdkagaaG1Links
namespace Go.Proofs.Ytjlnhijabdkagaa
open Go.RowKit

theorem isNode_b (A : Option Addr) (n c : Nat) (at_ : Int) (w : World) {b : Bool} (hb : (decide (0 ≤ at_) && decide (at_ < n)) = b) :
    Calls Try.prog 75 #[.slice A n c, .int .i64 at_] w fun e w' => e = .returned (.bool b) ∧ w = w' := by
  subst hb
  go_enter Try.func75, Try.ntmps75
  by_cases h0 : 0 ≤ at_
  · by_cases h1 : at_ < n
    · go_wp2_with fail
      go_ret
      exact ⟨by simp; omega, rfl⟩
    · go_wp2_with fail
      go_ret
      exact ⟨by simp; omega, rfl⟩
  · go_wp2_with fail
    go_ret
    exact ⟨by simp; omega, rfl⟩
def UsesPost (w : World) (l : List Int) (e : Ending) (w' : World) : Prop := ∃ v', e = .returned v' ∧ OwnI w' w.heap.size v' l ∧ w.grownBy w' none
set_option maxRecDepth 20000 in
theorem planUses_any (v : Value) (plan : List Node) (at_ : Nat) (w : World) (h : RN w v plan) (hv : planValid plan = true) (hat : at_ < plan.length) :
    Calls Try.prog 31 #[v, .int .i64 at_] w (UsesPost w ((graphL plan (2 * at_ + 2)).map (fun j : Nat => (j : Int)))) := by
  obtain ⟨A, n, c, rfl, -, hn, -⟩ := h.form'
  have hn10 : n ≤ 10 := by have := planValid_len hv; omega
  have hat' : at_ < n := by omega
  have Hn := Lib.hid hn
  have Hv := Lib.hid hv
  clear hn hv hat
  go_enter Try.func31, Try.ntmps31
  go_wp2_with fail
  refine (graphOf_all _ plan _ h).mono ?_
  rintro e w1 ⟨gv, rfl, hg1, hG⟩
  obtain ⟨B, R, G, hR0, hR⟩ := hG Hv.out
  clear hG
  rw [Hv.out]
  have hsz := hg1.size
  have hz : (R 0).2 = List.range n := by rw [hR 0, Hn.out]; exact graphTo_zero (Nat.le_refl _)
  rw [← Hn.out] at G
  obtain ⟨Ag, cg, hgv, -⟩ := G.form (a := 0) (by omega)
  rw [hz, List.length_range] at hgv
  obtain ⟨gg, rfl, c0⟩ := G.at0 hgv hz hat'
  rw [hR0] at hgv
  subst hgv
  obtain ⟨Au, cu, hu, hcu⟩ := G.form (a := 2 * at_ + 2) (by omega)
  have c1 := (G.blk at_ hat').cell 2
  have hm := G.len (2 * at_ + 2)
  have Hl : Hid ((R (2 * at_ + 2)).2 = graphL plan (2 * at_ + 2)) := hR _
  have hu2 : (R (2 * at_ + 2)).1 = .slice Au (R (2 * at_ + 2)).2.length cu := hu
  have c1' : w1.cell? ⟨B at_, 2, none⟩ = some (.slice Au (R (2 * at_ + 2)).2.length cu) := by rw [c1, hu2]; rfl
  have Hu : Hid ((R (2 * at_ + 2)).1 = .slice Au (R (2 * at_ + 2)).2.length cu) := hu
  have Hmem : Hid (∀ j ∈ (R (2 * at_ + 2)).2, j < n) := G.mem (2 * at_ + 2) (by omega)
  clear hu hu2 hcu c1 hR0 hR hz
  generalize hLL : (R (2 * at_ + 2)).2 = LL at *
  have HLL := Lib.hid hLL
  clear hLL
  go_wp2_with fail
  refine (isNode_b A n c at_ _ (b := true) (by simp; omega)).mono ?_
  rintro e w2 ⟨rfl, rfl⟩
  go_wp2_with fail
  go_loopw [7, 31] (fun s i wr => ∃ k : Nat, k ≤ LL.length ∧ i = .int .i64 k ∧ OwnI wr w.heap.size s ((LL.take k).map (fun j : Nat => (j : Int))) ∧ Gr wr w.heap.size n B R ∧ w.grownBy wr none) (fun _ i _ => LL.length - (intOf i).toNat)
  case atStart => exact ⟨0, Nat.zero_le _, rfl, OwnI.nil _ _, G, hg1⟩
  case round =>
    clear G hg1
    obtain ⟨k, hk, rfl, ho, G, hg⟩ := hrel
    by_cases hlt : k < LL.length
    · obtain ⟨Au', cu', hu', hcu'⟩ := G.form (a := 2 * at_ + 2) (by omega)
      obtain rfl : Au = Au' := by rw [Hu.out] at hu'; injection hu'
      rw [HLL.out] at hcu'
      obtain ⟨g, rfl, hcs⟩ := hcu' (by omega)
      obtain ⟨x, hx⟩ : ∃ x, LL[k]? = some x := ⟨_, List.getElem?_eq_getElem hlt⟩
      have hxn := Hmem.out x (List.mem_of_getElem? hx)
      have d0 := hcs k x hx
      have d1 : wr.cell? ⟨B x, 0, none⟩ = some (.int .i64 (x : Nat)) := (G.blk x hxn).cell 0
      have Hx := Lib.hid hx
      have Hcs := Lib.hid hcs
      have hlen : ((LL.take k).map (fun j : Nat => (j : Int))).length ≤ 1000 := by simp; omega
      clear hx hcs hu' hcu'
      go_wp2_with (at_builtin; go_must (refine wp_push_int (.tmp 35) (.tmp 40) rfl rfl ho (by omega) hg.size rfl rfl ?_))
      intro v' w5 hown5 hg5
      obtain ⟨A5, n5, c5, rfl⟩ := hown5.ri.val
      have G5 := G.grown hg5 (ho.notE (by decide)) (ho.notE (by decide))
      have hg6 := ho.gb hg hg5 (Nat.le_refl _)
      have hown6 : OwnI w5 w.heap.size (.slice A5 n5 c5) ((LL.take (k + 1)).map (fun j : Nat => (j : Int))) := by
        obtain ⟨hk', hx'⟩ := List.getElem?_eq_some_iff.1 Hx.out
        rw [List.take_succ_eq_append_getElem hk', List.map_append, hx']
        simpa [List.map_take] using hown5
      go_wp2_with fail
      go_roundw
      case rel => exact ⟨k + 1, by omega, by go_num, hown6, G5, hg6⟩
      case measure => simp [intOf]; omega
    · obtain rfl : k = LL.length := by omega
      rw [List.take_of_length_le (Nat.le_refl _)] at ho
      obtain ⟨A5, n5, c5, rfl⟩ := ho.ri.val
      go_wp2_with fail
      go_ret
      exact ⟨_, rfl, by rw [← Hl.out]; exact ho, hg⟩
end Go.Proofs.Ytjlnhijabdkagaa
