/- Walks: spec.l3Wide, spec.l3Node, spec.PlanValid. -/
import Derived.Test.YthampfkicnakgaaGreatDoorA3Mem
import Derived.Test.YthampfkicnakgaaGreatDoorB1Rows
import Derived.Deep.RegionHeld3
import Derived.Deep.DeepCutAuto
namespace Go.Proofs.YthampfkicnakgaaGreatDoor
open Go.RowKit

theorem l3Wide_any (v : Value) (plan : List Node) (w : World) (h : RN w v plan) :
    Calls Tryz.prog 67 #[v] w fun e w' => e = .returned (.int .i64 (wide plan : Nat)) ∧ w = w' := by
  obtain ⟨A, n, c, rfl, _, hn, hle⟩ := h.form'
  have Hn := Lib.hid hn
  clear hn
  go_enter Tryz.func67, Tryz.ntmps67
  go_wp2
  go_loop [3] (fun i => ∃ k : Nat, k ≤ n ∧ i = .int .i64 k ∧ (plan.take k).all (fun x => x.kind != 0) = true) (fun i => n - (intOf i).toNat)
  case atStart => exact ⟨0, Nat.zero_le _, rfl, rfl⟩
  case round =>
    obtain ⟨k, hk, rfl, hall⟩ := hrel
    have Hall := Lib.hid hall
    clear hall
    by_cases hlt : k < n
    · obtain ⟨g, o, nd, f, r, rfl, hx, c0, c1, c2, hf, hr⟩ := h.at_ hlt
      have Hx := Lib.hid hx
      clear hx
      by_cases hk0 : nd.kind = 0
      · have Hr : Hid (wide plan = nd.row.length) := by
          show wide plan = nd.row.length
          have : plan.find? (fun x => x.kind == 0) = some nd := by
            rw [List.find?_eq_some_iff_getElem]
            obtain ⟨hk', hx'⟩ := List.getElem?_eq_some_iff.1 Hx.out
            refine ⟨by simp [hk0], k, hk', hx', fun j hj => ?_⟩
            have := List.all_eq_true.1 Hall.out plan[j] (List.mem_take_iff_getElem.2 ⟨j, by omega, rfl⟩)
            simpa using this
          unfold wide
          rw [this]
        obtain ⟨Ar, nr, cr, rfl, _, hnr⟩ := hr.form'
        rw [← hnr] at Hr
        clear hnr
        rw [hk0] at c0
        clear hk0
        go_wp2_with fail
        go_ret
        exact ⟨by rw [Hr.out]; rfl, rfl⟩
      · have hb : (nd.kind == 0) = false := by simpa using hk0
        have Hb : Hid (nd.kind != 0) := by show (nd.kind != 0) = true; simpa using hk0
        clear hk0
        go_wp2_with fail
        go_round
        case rel => exact ⟨k + 1, by omega, by go_num, by rw [all_snoc _ Hx.out, Hall.out]; exact Hb.out⟩
        case measure => simp [intOf]; omega
    · have Hr : Hid (wide plan = 0) := by
        show wide plan = 0
        have : plan.find? (fun x => x.kind == 0) = none := by
          rw [List.find?_eq_none]
          intro x hx
          have h1 := Hall.out
          rw [show k = n by omega, Hn.out, List.take_length] at h1
          simpa using List.all_eq_true.1 h1 x hx
        unfold wide
        rw [this]
      go_wp2_with fail
      go_ret
      exact ⟨by rw [Hr.out]; rfl, rfl⟩

set_option maxHeartbeats 400000 in
theorem l3Node_any (v : Value) (nd : Node) (at_ : Int) (wd : Nat) (w : World) (h : NV w v nd) (ha0 : 0 ≤ at_) (ha1 : at_ ≤ 1000000000) :
    Calls Tryz.prog 66 #[v, .int .i64 at_, .int .i64 wd] w fun e w' => e = .returned (.bool (nodeOk nd at_ wd)) ∧ w.grownBy w' none := by
  obtain ⟨f, r, rfl, hf, hr⟩ := h
  have hfl := hf.le
  have hrl := hr.le
  obtain ⟨Af, nf, cf, rfl, _, hnf⟩ := hf.form'
  obtain ⟨Ar, nr, cr, rfl, _, hnr⟩ := hr.form'
  rw [← hnf] at hfl
  rw [← hnr] at hrl
  have Hnf := Lib.hid hnf
  have Hnr := Lib.hid hnr
  clear hnf hnr
  have hrW := hr.alloc (.cells #[.int .i64 nd.kind, .slice Af nf cf, .slice Ar nr cr] 66)
  have hfW := hf.alloc (.cells #[.int .i64 nd.kind, .slice Af nf cf, .slice Ar nr cr] 66)
  have hG : Hid (w.grownBy (w.alloc (.cells #[.int .i64 nd.kind, .slice Af nf cf, .slice Ar nr cr] 66)) none) := World.grownBy_alloc _ _ _
  clear hf hr
  by_cases hk : kindNeeds nd.kind = nf
  · have hb : (kindNeeds nd.kind != (nf : Int)) = false := by simpa using hk
    clear hk
    by_cases hv : rowValid nd.row = true
    · have Hv := Lib.hid hv
      clear hv
      go_enter Tryz.func66, Tryz.ntmps66
      go_wp2_with fail
      go_quiet ((first
        | (go_at_call 69; exact quiet_l (specKindNeeds_any _ _))
        | (go_at_call 29; exact quiet_l (specRowValid_b _ _ _ (by exact hrW) Hv.out))))
      go_wp2_with fail
      go_loop [7] (fun i => ∃ k : Nat, k ≤ nf ∧ i = .int .i64 k ∧ (nd.frm.take k).all (fun y => decide (0 ≤ y) && decide (y ≤ at_ - 1)) = true) (fun i => nf - (intOf i).toNat)
      case atStart => exact ⟨0, Nat.zero_le _, rfl, rfl⟩
      case round =>
        obtain ⟨k, hk, rfl, hall⟩ := hrel
        have Hall := Lib.hid hall
        clear hall
        by_cases hlt : k < nf
        · obtain ⟨g, o, x, rfl, hx, hcell⟩ := hfW.at_ hlt
          have Hx := Lib.hid hx
          clear hx
          by_cases hin : (decide (0 ≤ x) && decide (x ≤ at_ - 1)) = true
          · have Hin := Lib.hid hin
            go_wp2_with fail
            refine (l6In_any _ _ _ _).mono ?_
            rw [hin]
            clear hin
            rintro e w' ⟨rfl, rfl⟩
            go_wp2_with fail
            go_round
            case rel => exact ⟨k + 1, by omega, by go_num, by rw [all_snoc _ Hx.out, Hall.out, Hin.out]; rfl⟩
            case measure => simp [intOf]; omega
          · have hin' : (decide (0 ≤ x) && decide (x ≤ at_ - 1)) = false := by simpa using hin
            have Hr : Hid (nodeOk nd at_ wd = false) := by
              show nodeOk nd at_ wd = false
              have : nd.frm.all (fun y => decide (0 ≤ y) && decide (y ≤ at_ - 1)) = false := by
                rw [List.all_eq_false]
                exact ⟨x, List.mem_of_getElem? Hx.out, by simpa using hin⟩
              unfold nodeOk
              rw [this]
              simp
            clear hin
            go_wp2_with fail
            refine (l6In_any _ _ _ _).mono ?_
            rw [hin']
            clear hin'
            rintro e w' ⟨rfl, rfl⟩
            go_wp2_with fail
            go_ret
            exact ⟨by rw [Hr.out]; rfl, gb_drewN hG.out _⟩
        · have Hr : Hid (nodeOk nd at_ wd = if nd.kind = 0 then decide (nr = wd) else decide (nr = 0)) := by
            show nodeOk nd at_ wd = if nd.kind = 0 then decide (nr = wd) else decide (nr = 0)
            have h1 := Hall.out
            rw [show k = nf by omega, Hnf.out, List.take_length] at h1
            have h2 : kindNeeds nd.kind = (nd.frm.length : Int) := by rw [← Hnf.out]; simpa using hb
            unfold nodeOk
            rw [h1, h2, Hv.out, Hnr.out]
            simp
          by_cases hk0 : nd.kind = 0
          · have Hr' : Hid (nodeOk nd at_ wd = ((nr : Int) == (wd : Int))) := by
              show nodeOk nd at_ wd = ((nr : Int) == (wd : Int))
              rw [Hr.out, if_pos hk0, Bool.eq_iff_iff]
              simp
              omega
            have hb0 : (nd.kind == 0) = true := by simpa using hk0
            clear hk0 Hr
            go_wp2_with fail
            go_ret
            exact ⟨by rw [Hr'.out]; rfl, gb_drewN hG.out _⟩
          · have Hr' : Hid (nodeOk nd at_ wd = ((nr : Int) == 0)) := by
              show nodeOk nd at_ wd = ((nr : Int) == 0)
              rw [Hr.out, if_neg hk0, Bool.eq_iff_iff]
              simp
            have hb0 : (nd.kind == 0) = false := by simpa using hk0
            clear hk0 Hr
            go_wp2_with fail
            go_ret
            exact ⟨by rw [Hr'.out]; rfl, gb_drewN hG.out _⟩
    · have hv' : rowValid nd.row = false := by simpa using hv
      have Hr : Hid (nodeOk nd at_ wd = false) := by
        show nodeOk nd at_ wd = false
        unfold nodeOk
        rw [hv']
        simp
      have Hv := Lib.hid hv'
      clear hv hv'
      go_enter Tryz.func66, Tryz.ntmps66
      go_wp2_with fail
      go_quiet ((first
        | (go_at_call 69; exact quiet_l (specKindNeeds_any _ _))
        | (go_at_call 29; exact quiet_l (specRowValid_b _ _ _ (by exact hrW) Hv.out))))
      go_wp2_with fail
      go_ret
      exact ⟨by rw [Hr.out]; rfl, gb_drewN hG.out _⟩
  · have hb : (kindNeeds nd.kind != (nf : Int)) = true := by simpa using hk
    have Hr : Hid (nodeOk nd at_ wd = false) := by
      show nodeOk nd at_ wd = false
      unfold nodeOk
      rw [show decide (kindNeeds nd.kind = (nd.frm.length : Int)) = false by rw [← Hnf.out]; simpa using hk]
      simp
    clear hk
    go_enter Tryz.func66, Tryz.ntmps66
    go_wp2_with fail
    go_quiet ((first
      | (go_at_call 69; exact quiet_l (specKindNeeds_any _ _))
      | (go_at_call 29; exact quiet_l (specRowValid_any _ _ _ (by exact hrW)))))
    go_wp2_with fail
    go_ret
    exact ⟨by rw [Hr.out]; rfl, gb_drewN hG.out _⟩

theorem l3Node_b (v : Value) (nd : Node) (at_ : Int) (wd : Nat) (w : World) (h : NV w v nd) (ha0 : 0 ≤ at_) (ha1 : at_ ≤ 1000000000) {b : Bool} (hb : nodeOk nd at_ wd = b) :
    Calls Tryz.prog 66 #[v, .int .i64 at_, .int .i64 wd] w fun e w' => e = .returned (.bool b) ∧ w.grownBy w' none := hb ▸ l3Node_any v nd at_ wd w h ha0 ha1

set_option maxHeartbeats 400000 in
theorem specPlanValid_any (v : Value) (plan : List Node) (w : World) (h : RN w v plan) (hl : plan.length ≤ 1000000000) :
    Calls Tryz.prog 40 #[v] w fun e w' => e = .returned (.bool (planValid plan)) ∧ w.grownBy w' none := by
  obtain ⟨A, n, c, rfl, _, hn, _⟩ := h.form'
  rw [← hn] at hl
  have Hn := Lib.hid hn
  clear hn
  go_enter Tryz.func40, Tryz.ntmps40
  go_wp2_with fail
  go_loopw [3] (fun i wr => ∃ k : Nat, k ≤ n ∧ i = .int .i64 k ∧ (plan.zipIdx.take k).all (fun x => nodeOk x.1 x.2 (wide plan)) = true ∧ w.grownBy wr none) (fun i _ => n - (intOf i).toNat)
  case atStart => exact ⟨0, Nat.zero_le _, rfl, rfl, gb_refl _ _⟩
  case round =>
    obtain ⟨k, hk, rfl, hall, hg⟩ := hrel
    have Hall := Lib.hid hall
    clear hall
    have hwr := h.new hg
    by_cases hlt : k < n
    · obtain ⟨g, o, nd, f, r, rfl, hx, c0, c1, c2, hf, hr⟩ := hwr.at_ hlt
      have Hx := Lib.hid hx
      clear hx
      have hnv : NV wr (.agg #[.int .i64 nd.kind, f, r]) nd := ⟨f, r, rfl, hf, hr⟩
      by_cases hno : nodeOk nd k (wide plan) = true
      · have Hno := Lib.hid hno
        clear hno
        go_wp2_with fail
        go_region_held3 (fun w' => w'.cell? ⟨g, o + k * 3, none⟩ = some (.int .i64 nd.kind) ∧ w'.cell? ⟨g, o + k * 3 + 1, none⟩ = some f ∧ w'.cell? ⟨g, o + k * 3 + 2, none⟩ = some r) (go_keep)
          (first
            | (go_at_call 67; refine (l3Wide_any _ plan _ (by exact hwr)).mono ?_; rintro e w' ⟨rfl, rfl⟩)
            | (go_at_call 66; refine (l3Node_b _ nd k (wide plan) _ (by exact hnv) (by omega) (by omega) Hno.out).mono ?_; rintro e w' ⟨rfl, hg'⟩; have k0 := hg'.cell (by exact c0) (by simp); have k1 := hg'.cell (by exact c1) (by simp); have k2 := hg'.cell (by exact c2) (by simp)))
        go_wp2_with fail
        go_roundw
        case rel => exact ⟨k + 1, by omega, by go_num, by rw [all_snoc _ (zipIdx_get Hx.out), Hall.out]; exact Hno.out, gb_trans (gb_drew hg) (by assumption)⟩
        case measure => simp [intOf]; omega
      · have hno' : nodeOk nd k (wide plan) = false := by simpa using hno
        have Hno := Lib.hid hno'
        have Hr : Hid (planValid plan = false) := by
          show planValid plan = false
          have : plan.zipIdx.all (fun x => nodeOk x.1 x.2 (wide plan)) = false := by
            rw [List.all_eq_false]
            exact ⟨(nd, k), List.mem_of_getElem? (zipIdx_get Hx.out), hno⟩
          unfold planValid
          rw [this]
          simp
        clear hno hno'
        go_wp2_with fail
        go_region_held3 (fun w' => w'.cell? ⟨g, o + k * 3, none⟩ = some (.int .i64 nd.kind) ∧ w'.cell? ⟨g, o + k * 3 + 1, none⟩ = some f ∧ w'.cell? ⟨g, o + k * 3 + 2, none⟩ = some r) (go_keep)
          (first
            | (go_at_call 67; refine (l3Wide_any _ plan _ (by exact hwr)).mono ?_; rintro e w' ⟨rfl, rfl⟩)
            | (go_at_call 66; refine (l3Node_b _ nd k (wide plan) _ (by exact hnv) (by omega) (by omega) Hno.out).mono ?_; rintro e w' ⟨rfl, hg'⟩; have k0 := hg'.cell (by exact c0) (by simp); have k1 := hg'.cell (by exact c1) (by simp); have k2 := hg'.cell (by exact c2) (by simp)))
        go_wp2_with fail
        go_ret
        exact ⟨by rw [Hr.out]; rfl, gb_trans (gb_drew hg) (by assumption)⟩
    · have Hr : Hid (planValid plan = decide ((n : Int) ≤ 10)) := by
        show planValid plan = decide ((n : Int) ≤ 10)
        have h1 := Hall.out
        rw [List.take_of_length_le (by rw [List.length_zipIdx, ← Hn.out]; omega)] at h1
        unfold planValid
        rw [h1, Bool.true_and, ← Hn.out]
        exact decide_eq_decide.2 (by omega)
      go_wp2_with fail
      go_ret
      exact ⟨by rw [Hr.out]; rfl, hg⟩
theorem specPlanValid_b (v : Value) (plan : List Node) (w : World) (h : RN w v plan) (hl : plan.length ≤ 1000000000) {b : Bool} (hb : planValid plan = b) :
    Calls Tryz.prog 40 #[v] w fun e w' => e = .returned (.bool b) ∧ w.grownBy w' none := hb ▸ specPlanValid_any v plan w h hl
end Go.Proofs.YthampfkicnakgaaGreatDoor
