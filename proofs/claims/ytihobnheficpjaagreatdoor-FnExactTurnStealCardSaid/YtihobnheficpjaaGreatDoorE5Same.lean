/- Walks: the laws' comparisons of plans. -/
import Derived.Test.YtihobnheficpjaaGreatDoorM07
import Derived.Deep.RegionHeld3
namespace Go.Proofs.YtihobnheficpjaaGreatDoor
open Go.RowKit

set_option maxRecDepth 20000 in
theorem eqNode_any (f r f' r' : Value) (nd : Node) (w : World) (hf : RI w f nd.frm) (hr : RI w r nd.row) (hf' : RI w f' nd.frm) (hr' : RI w r' nd.row) :
    Calls Tryz.prog 79 #[.agg #[.int .i64 nd.kind, f, r], .agg #[.int .i64 nd.kind, f', r']] w fun e w' => e = .returned (.bool true) ∧ w.grownBy w' none := by
  have B0 : Blk ((w.alloc (.cells #[.int .i64 nd.kind, f, r] 94)).alloc (.cells #[.int .i64 nd.kind, f', r'] 94)) w.heap.size 94 #[.int .i64 nd.kind, f, r] := (Blk.new w _ _).alloc _
  have B1 : Blk ((w.alloc (.cells #[.int .i64 nd.kind, f, r] 94)).alloc (.cells #[.int .i64 nd.kind, f', r'] 94)) (w.heap.size + 1) 94 #[.int .i64 nd.kind, f', r'] := by
    have := Blk.new (w.alloc (.cells #[.int .i64 nd.kind, f, r] 94)) 94 #[.int .i64 nd.kind, f', r']
    rw [World.size_alloc] at this
    exact this
  have hg0 : w.grownBy ((w.alloc (.cells #[.int .i64 nd.kind, f, r] 94)).alloc (.cells #[.int .i64 nd.kind, f', r'] 94)) none := gb_alloc (gb_alloc (gb_refl w none) _) _
  go_enter Tryz.func79, Tryz.ntmps79
  go_wp2_with fail
  generalize ((w.alloc (.cells #[.int .i64 nd.kind, f, r] 94)).alloc (.cells #[.int .i64 nd.kind, f', r'] 94)) = X at *
  refine (eqIntS_any f f' nd.frm X (hf.new hg0) (hf'.new hg0)).mono ?_
  rintro e w1 ⟨rfl, hg1⟩
  have k1 := (B0.grown hg1 (by simp)).cell 2
  have k2 := (B1.grown hg1 (by simp)).cell 2
  go_wp2_with fail
  refine (eqIntS_any r r' nd.row w1 ((hr.new hg0).new hg1) ((hr'.new hg0).new hg1)).mono ?_
  rintro e w2 ⟨rfl, hg2⟩
  go_wp2_with fail
  go_ret
  exact ⟨rfl, gb_trans (gb_trans hg0 hg1) hg2⟩

set_option maxRecDepth 20000 in
theorem eqNodeS_any (v v' : Value) (plan : List Node) (w : World) (h : RN w v plan) (h' : RN w v' plan) : Calls Tryz.prog 32 #[v, v'] w fun e w' => e = .returned (.bool true) ∧ w.grownBy w' none := by
  obtain ⟨A, n, c, rfl, h2, h3, h4⟩ := h.form'
  obtain ⟨A', n', c', rfl, h2', h3', h4'⟩ := h'.form'
  obtain rfl : n = n' := by omega
  clear h3 h3'
  go_enter Tryz.func32, Tryz.ntmps32
  go_wp2_with fail
  go_loopw [5] (fun i wr => ∃ k : Nat, k ≤ n ∧ i = .int .i64 k ∧ w.grownBy wr none) (fun i _ => n - (intOf i).toNat)
  case atStart => exact ⟨0, Nat.zero_le _, rfl, gb_refl _ _⟩
  case round =>
    obtain ⟨k, hk, rfl, hg⟩ := hrel
    have hw := h.new hg
    have hw' := h'.new hg
    by_cases hlt : k < n
    · obtain ⟨g, o, nd, f, r, rfl, hx, c0, c1, c2, hf, hr⟩ := hw.at_ hlt
      obtain ⟨g', o', nd', f', r', rfl, hx', d0, d1, d2, hf', hr'⟩ := hw'.at_ hlt
      obtain rfl : nd = nd' := by rw [hx] at hx'; injection hx'
      clear hx hx'
      go_wp2_with fail
      go_region_held3 (fun w' => w'.cell? ⟨g, o + k * 3, none⟩ = some (.int .i64 nd.kind) ∧ w'.cell? ⟨g, o + k * 3 + 1, none⟩ = some f ∧ w'.cell? ⟨g, o + k * 3 + 2, none⟩ = some r ∧ w'.cell? ⟨g', o' + k * 3, none⟩ = some (.int .i64 nd.kind) ∧ w'.cell? ⟨g', o' + k * 3 + 1, none⟩ = some f' ∧ w'.cell? ⟨g', o' + k * 3 + 2, none⟩ = some r') (go_keep)
        (first | (go_at_call 79; refine (eqNode_any f r f' r' nd _ (by exact hf) (by exact hr) (by exact hf') (by exact hr')).mono ?_; rintro e w' ⟨rfl, hg'⟩; have k0 := hg'.cell (by exact c0) (by simp); have k1 := hg'.cell (by exact c1) (by simp); have k2 := hg'.cell (by exact c2) (by simp); have l0 := hg'.cell (by exact d0) (by simp); have l1 := hg'.cell (by exact d1) (by simp); have l2 := hg'.cell (by exact d2) (by simp)))
      go_wp2_with fail
      go_roundw
      case rel => exact ⟨k + 1, by omega, by go_num, gb_trans (gb_drew hg) (by assumption)⟩
      case measure => simp [intOf]; omega
    · go_wp2_with fail
      go_ret
      exact ⟨rfl, hg⟩
end Go.Proofs.YtihobnheficpjaaGreatDoor
