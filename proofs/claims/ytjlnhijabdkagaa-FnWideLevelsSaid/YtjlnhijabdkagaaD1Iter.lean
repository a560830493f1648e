/- Walks: the iterator nodesOf. -/
import Derived.RangeFuncNested
import Derived.RangeFuncBound
import Derived.RangeFuncCalls
import Derived.RangeFuncLeaves
import Derived.RangeFuncBox
import Derived.Shelf.Abstract
import Derived.Shelf.RegionOpen
import Derived.OwnWalkIn
import Derived.TacticsInMore
import Derived.LoopNIn
import Derived.LoopIn
import Derived.Test.YtjlnhijabdkagaaC6GraphOf
namespace Go.Proofs.Ytjlnhijabdkagaa
open Go.RowKit Go.Shelf
attribute [local go_sem] Oper.semAt_some

theorem nodesOf_any (A : Option Addr) (n c : Nat) (w : World) :
    Calls Try.prog 71 #[.slice A n c] w fun e w' => e = .returned (.func (.func 106) #[] #[.pointer (some ⟨w.heap.size, 0, none⟩)]) ∧ w.alloc (.cells #[.slice A n c] 23) = w' := by
  go_enter Try.func71, Try.ntmps71
  go_wp2_with fail
  go_ret
  exact ⟨rfl, rfl⟩

/-- The values of a plan's nodes as they lie in memory. -/
def NodeVals (w : World) (A : Option Addr) (plan : List Node) (V : Nat → Value) : Prop :=
  ∀ i nd, plan[i]? = some nd → ∃ g o Af nf cf Ar nr cr, A = some ⟨g, o, none⟩ ∧ V i = .agg #[.int .i64 nd.kind, .slice Af nf cf, .slice Ar nr cr] ∧ w.cell? ⟨g, o + i * 3, none⟩ = some (.int .i64 nd.kind) ∧ w.cell? ⟨g, o + i * 3 + 1, none⟩ = some (.slice Af nf cf) ∧
    w.cell? ⟨g, o + i * 3 + 2, none⟩ = some (.slice Ar nr cr) ∧ RI w (.slice Af nf cf) nd.frm ∧ RI w (.slice Ar nr cr) nd.row
theorem NodeVals.exists {w : World} {A : Option Addr} {n c : Nat} {plan : List Node} (h : RN w (.slice A n c) plan) : ∃ V, NodeVals w A plan V := by
  have key : ∀ i, ∃ v, ∀ nd, plan[i]? = some nd → ∃ g o Af nf cf Ar nr cr, A = some ⟨g, o, none⟩ ∧ v = Value.agg #[.int .i64 nd.kind, .slice Af nf cf, .slice Ar nr cr] ∧ w.cell? ⟨g, o + i * 3, none⟩ = some (.int .i64 nd.kind) ∧ w.cell? ⟨g, o + i * 3 + 1, none⟩ = some (.slice Af nf cf) ∧
    w.cell? ⟨g, o + i * 3 + 2, none⟩ = some (.slice Ar nr cr) ∧ RI w (.slice Af nf cf) nd.frm ∧ RI w (.slice Ar nr cr) nd.row := by
    intro i
    cases hx : plan[i]? with
    | none => exact ⟨undef, fun nd h => by cases h⟩
    | some nd =>
      have hi : i < n := by
        have := (List.getElem?_eq_some_iff.1 hx).1
        rw [h.len]
        exact this
      obtain ⟨g, o, nd', f, r, rfl, hx', c0, c1, c2, hf, hr⟩ := h.at_ hi
      rw [hx] at hx'
      obtain rfl : nd = nd' := by simpa using hx'
      obtain ⟨Af, nf, cf, rfl⟩ := hf.val
      obtain ⟨Ar, nr, cr, rfl⟩ := hr.val
      exact ⟨_, fun nd'' hnd => by
        obtain rfl : nd = nd'' := by simpa using hnd
        exact ⟨g, o, Af, nf, cf, Ar, nr, cr, rfl, rfl, c0, c1, c2, hf, hr⟩⟩
  exact ⟨fun i => Classical.choose (key i), fun i => Classical.choose_spec (key i)⟩

theorem finRange_take {n k : Nat} (hk : k < n) : (List.finRange n).take (k + 1) = (List.finRange n).take k ++ [⟨k, hk⟩] := by
  rw [List.take_succ_eq_append_getElem (by simpa using hk)]
  simp

set_option maxRecDepth 100000 in
set_option maxHeartbeats 1000000 in
theorem nodes_stops (m : Nat) (hm : 1 ≤ m) (Bs n c : Nat) (A : Option Addr) (plan : List Node) (V : Nat → Value) (w0 w : World) (h : RN w0 (.slice A n c) plan) (hV : NodeVals w0 A plan V) (hv : planValid plan = true)
    (hb0 : Below w0.heap.size w0 w) (hBs : Bs < w.heap.size) (hc : w.cell? ⟨Bs, 0, none⟩ = some (.slice A n c)) :
    SeqStopsK Fence.wide m Try.prog 106 #[.pointer (some ⟨Bs, 0, none⟩)] (fun x : Fin n => #[.int .i64 (x.1 : Nat), V x.1]) (Below w0.heap.size) (fun xs => xs = List.finRange n) (fun _ => True) n w := fun l J Jx W hW hJ hJx hY h0 => by
  have hc' : W.cell? ⟨Bs, 0, none⟩ = some (.slice A n c) := (hW.cell (p := ⟨Bs, 0, none⟩) hBs).trans hc
  have hbW : Below w0.heap.size w0 W := hb0.trans (hW.mono hb0.size)
  have hRW : RN W (.slice A n c) plan := h.new (gb_of_below hbW none)
  have hle := hRW.form'
  have hle' : n ≤ 9223372036854775807 := by
    obtain ⟨A', n', c', h1, _, _, h2⟩ := hle
    injection h1 with _ h1 _
    omega
  clear hle
  have Hv := Lib.hid hv
  have hn := h.len
  have Hn := Lib.hid hn
  have HY := Lib.hid hY
  have HJ := Lib.hid hJ
  clear hv hn hc hY hJ hJx
  refine callsIn_of_wp Try.func106 rfl trivial ?_ rfl
  simp only [Try.ntmps106, List.size_toArray, List.length_cons, List.length_nil, Nat.reduceAdd, Nat.reduceSub, Array.replicate_succ, Array.replicate_zero, List.push_toArray, List.append_toArray, List.nil_append, List.cons_append]
  gi_wp2_with (refine ⟨trivial, ?_⟩; gi_at_call 70; refine (callsIn_wide.2 (implPlanValid_b _ plan _ hRW Hv.out)).mono ?_; rintro e W2 ⟨rfl, hg2⟩; have hc2 := hg2.cell hc' (by simp))
  have h2 : J [] W2 := HJ.out _ _ _ none h0 hg2 (fun _ e => by cases e)
  have hb2 : Below w0.heap.size w0 W2 := hbW.trans ((gb_below hg2).mono hbW.size)
  clear hRW hg2 h0 hc'
  gi_loopw [10] (fun i wr => ∃ k : Nat, k ≤ n ∧ i = .int .i64 k ∧ J ((List.finRange n).take k) wr ∧ Below w0.heap.size w0 wr) (fun i _ => n - (intOf i).toNat)
  case atStart => exact ⟨0, Nat.zero_le _, rfl, h2, hb2⟩
  case round =>
    obtain ⟨k, hk, rfl, hJk, hbk⟩ := hrel
    by_cases hlt : k < n
    · have hx : plan[k]? = some (plan[k]'(by rw [← Hn.out]; exact hlt)) := List.getElem?_eq_getElem _
      obtain ⟨g, o, Af, nf, cf, Ar, nr, cr, rfl, hVk, e0, e1, e2, hf, hr⟩ := hV k _ hx
      have hgk := gb_of_below hbk none
      have c0 := hgk.cell e0 (by simp)
      have c1 := hgk.cell e1 (by simp)
      have c2 := hgk.cell e2 (by simp)
      generalize plan[k]'(by rw [← Hn.out]; exact hlt) = nd at *
      have hJa := HJ.out _ _ _ none hJk (World.grownBy_alloc wr (.cells #[.int .i64 nd.kind, .slice Af nf cf, .slice Ar nr cr] 29) none) (fun _ e => by cases e)
      obtain ⟨fn, tmps, assign, body, hy, hR⟩ := HY.out _ ⟨k, hlt⟩ _ hJa (by rw [List.length_take]; omega)
      dsimp only at hy
      rw [hVk] at hy
      clear hx hVk e0 e1 e2 hJa
      gi_wp2
      refine hR.mono ?_
      rintro e W3 (⟨rfl, hJ3, hk3⟩ | ⟨rfl, hJx3⟩)
      · have hb3 : Below w0.heap.size w0 W3 := (hbk.alloc (Nat.le_trans (Nat.le_refl _) hbk.size) _).trans hk3
        rw [← finRange_take hlt] at hJ3
        gi_wp2
        go_roundw
        case rel => exact ⟨k + 1, by omega, by go_num, hJ3, hb3⟩
        case measure => simp [intOf]; omega
      · gi_wp2
        refine bodyPost_ret (results_none rfl _ _ _) rfl ?_
        exact ⟨⟨_, rfl⟩, .inr ⟨_, trivial, hJx3⟩⟩
    · have hkn : k = n := by omega
      subst hkn
      gi_wp2
      go_end0
      exact ⟨⟨_, rfl⟩, .inl ⟨_, List.take_of_length_le (by simp), hJk⟩⟩
end Go.Proofs.Ytjlnhijabdkagaa
