/- Walks: the draw of a plan; spec.CountNeeds. -/
import Derived.Test.YtjlnhijabdkagaaB6Plan
import Derived.Test.YtjlnhijabdkagaaC1Spec
import Derived.Test.YtjlnhijabdkagaaB3Open
namespace Go.Proofs.Ytjlnhijabdkagaa
open Go.RowKit

/-- A drawn plan: a new one, nothing that was there turned. -/
def DrawPlan (w : World) (e : Ending) (w' : World) : Prop := ∃ v plan, e = .returned v ∧ RN w' v plan ∧ smallPlan plan ∧ w.grownBy w' none

theorem drawCountNeeds_any (w : World) (v : Value) (n : Nat) (h : Bytes w w.heap.size v n) (hn : n ≤ 1048576) : Calls Try.prog 23 #[v] w (DrawPlan w) := by
  obtain ⟨A, c, rfl, h2⟩ := id h
  go_enter Try.func23, Try.ntmps23
  go_wp2_with fail
  refine (l6Open_any _ _ n (by exact h) hn).mono ?_
  rintro e w1 ⟨rb, rfl, hrd, hg⟩
  go_wp2_with fail
  refine (l91Plan_any w.heap.size rb 0 _ (by exact hrd) (by omega) (by omega)).mono ?_
  rintro e w2 ⟨v2, plan, rfl, hv, hs, p', hp0, hp1, hrd', hg'⟩
  obtain ⟨A2, n2, c2, rfl⟩ := hv.val
  go_wp2_with fail
  go_ret
  exact ⟨_, plan, rfl, hv, hs, gb_new hg hg' (fun g e => by cases e; exact .inl hrd.le)⟩

/-- The sum of the needs of the first k nodes. -/
def fsum (plan : List Node) (k : Nat) : Int := ((plan.take k).map (fun x => (x.frm.length : Int))).sum
theorem fsum_succ {plan : List Node} {k : Nat} {nd : Node} (h : plan[k]? = some nd) : fsum plan (k + 1) = fsum plan k + nd.frm.length := by
  obtain ⟨hk, rfl⟩ := List.getElem?_eq_some_iff.1 h
  unfold fsum
  rw [List.take_succ_eq_append_getElem hk, List.map_append, List.sum_append]
  simp
theorem fsum_bound {plan : List Node} (hv : planValid plan = true) (k : Nat) : 0 ≤ fsum plan k ∧ fsum plan k ≤ 2 * k := by
  induction k with
  | zero => simp [fsum]
  | succ k ih =>
    cases h : plan[k]? with
    | none =>
      have : plan.length ≤ k := by simpa using h
      have e : fsum plan (k + 1) = fsum plan k := by unfold fsum; rw [List.take_of_length_le (by omega), List.take_of_length_le this]
      omega
    | some nd =>
      have := (planValid_node hv h).2.1
      rw [fsum_succ h]
      omega
theorem fsum_all {plan : List Node} (hv : planValid plan = true) : fsum plan plan.length = countNeeds plan := by
  unfold fsum countNeeds
  rw [if_pos hv, List.take_of_length_le (Nat.le_refl _)]

theorem specCountNeeds_any (v : Value) (plan : List Node) (w : World) (h : RN w v plan) (hl : plan.length ≤ 1000000000) :
    Calls Try.prog 25 #[v] w fun e w' => e = .returned (.int .i64 (countNeeds plan)) ∧ w.grownBy w' none := by
  obtain ⟨A, n, c, rfl, hc, hn, -⟩ := h.form'
  have Hn := Lib.hid hn
  clear hn
  by_cases hv : planValid plan = true
  · have Hv := Lib.hid hv
    clear hv
    have hn10 : n ≤ 10 := by have := planValid_len Hv.out; rw [← Hn.out] at this; exact this
    go_enter Try.func25, Try.ntmps25
    go_wp2_with fail
    refine (specPlanValid_b _ plan _ h hl Hv.out).mono ?_
    rintro e w1 ⟨rfl, hg1⟩
    have h1 := h.new hg1
    go_wp2_with fail
    go_loop [3, 4] (fun s i => ∃ (k : Nat) (z : Int), k ≤ n ∧ i = .int .i64 k ∧ s = .int .i64 z ∧ 0 ≤ z ∧ z ≤ 2 * k ∧ Hid (z = fsum plan k)) (fun _ i => n - (intOf i).toNat)
    case atStart => exact ⟨0, 0, Nat.zero_le _, rfl, rfl, by omega, by omega, by show (0 : Int) = _; simp [fsum]⟩
    case round =>
      obtain ⟨k, z, hk, rfl, rfl, hz0, hz1, Hz⟩ := hrel
      by_cases hlt : k < n
      · obtain ⟨g, o, nd, f, r, rfl, hx, c0, c1, c2, hf, hr⟩ := h1.at_ hlt
        have h2 := (planValid_node Hv.out hx).2.1
        have Hz2 : Hid (z + nd.frm.length = fsum plan (k + 1)) := by show _ = _; rw [fsum_succ hx, ← Hz.out]
        obtain ⟨fa, fn, fc, rfl, hfc, hfn⟩ := hf.form'
        have hfl : fn = nd.frm.length := by assumption
        clear hx
        rw [← hfl] at h2 Hz2
        clear hfl hfn
        go_wp2_with fail
        go_round
        case rel => exact ⟨k + 1, z + fn, by omega, by go_num, rfl, by omega, by omega, Hz2⟩
        case measure => simp [intOf]; omega
      · obtain rfl : k = n := by omega
        have Hr : Hid (countNeeds plan = z) := by show _ = _; rw [← fsum_all Hv.out, ← Hn.out]; exact Hz.out.symm
        go_wp2_with fail
        go_ret
        exact ⟨by rw [Hr.out]; rfl, hg1⟩
  · have hv' : planValid plan = false := by simpa using hv
    have Hv := Lib.hid hv'
    have Hr : Hid (countNeeds plan = -1) := by show countNeeds plan = _; unfold countNeeds; rw [if_neg hv]
    clear hv hv'
    go_enter Try.func25, Try.ntmps25
    go_wp2_with fail
    refine (specPlanValid_b _ plan _ h hl Hv.out).mono ?_
    rintro e w1 ⟨rfl, hg1⟩
    go_wp2_with fail
    go_ret
    exact ⟨by rw [Hr.out]; rfl, hg1⟩
end Go.Proofs.Ytjlnhijabdkagaa
