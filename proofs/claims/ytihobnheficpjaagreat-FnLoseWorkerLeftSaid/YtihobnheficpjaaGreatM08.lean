/- Walks: spec.l3Wide, spec.l3Node, spec.PlanValid. · Walks: spec.l13Order. · Words for memory: slices of the call's own that may begin inside their block. Conditions: none. -/
import Derived.Test.YtihobnheficpjaaGreatM05
import Derived.Test.YtihobnheficpjaaGreatM07
import Derived.Deep.RegionHeld3
import Derived.Deep.DeepCutAuto
import Derived.Laws.CopyRow
import Derived.Laws.AppendOwn
namespace Go.Proofs.YtihobnheficpjaaGreat
open Go.RowKit

theorem l3Wide_any (v : Value) (plan : List Node) (w : World) (h : RN w v plan) :
    Calls Tryz.prog 59 #[v] w fun e w' => e = .returned (.int .i64 (wide plan : Nat)) ∧ w = w' := by
  obtain ⟨A, n, c, rfl, _, hn, hle⟩ := h.form'
  have Hn := Lib.hid hn
  clear hn
  go_enter Tryz.func59, Tryz.ntmps59
  go_wp2
  go_loop [3] (fun i => ∃ k : Nat, k ≤ n ∧ i = .int .i64 k ∧ (plan.take k).all (fun x => x.kind != 0) = true) (fun i => n - (intOf i).toNat)
  case atStart => exact ⟨0, Nat.zero_le _, rfl, rfl⟩
  case round =>
    obtain ⟨k, hk, rfl, hall⟩ := hrel
    have Hall := Lib.hid hall
    clear hall
    by_cases hlt : k < n
    · obtain ⟨g, o, nd, f, r, rfl, hx, c0, c1, c2, hf, hr⟩ := h.at_ hlt
      have Hx := Lib.hid hx
      clear hx
      by_cases hk0 : nd.kind = 0
      · have Hr : Hid (wide plan = nd.row.length) := by
          show wide plan = nd.row.length
          have : plan.find? (fun x => x.kind == 0) = some nd := by
            rw [List.find?_eq_some_iff_getElem]
            obtain ⟨hk', hx'⟩ := List.getElem?_eq_some_iff.1 Hx.out
            refine ⟨by simp [hk0], k, hk', hx', fun j hj => ?_⟩
            have := List.all_eq_true.1 Hall.out plan[j] (List.mem_take_iff_getElem.2 ⟨j, by omega, rfl⟩)
            simpa using this
          unfold wide
          rw [this]
        obtain ⟨Ar, nr, cr, rfl, _, hnr⟩ := hr.form'
        rw [← hnr] at Hr
        clear hnr
        rw [hk0] at c0
        clear hk0
        go_wp2_with fail
        go_ret
        exact ⟨by rw [Hr.out]; rfl, rfl⟩
      · have hb : (nd.kind == 0) = false := by simpa using hk0
        have Hb : Hid (nd.kind != 0) := by show (nd.kind != 0) = true; simpa using hk0
        clear hk0
        go_wp2_with fail
        go_round
        case rel => exact ⟨k + 1, by omega, by go_num, by rw [all_snoc _ Hx.out, Hall.out]; exact Hb.out⟩
        case measure => simp [intOf]; omega
    · have Hr : Hid (wide plan = 0) := by
        show wide plan = 0
        have : plan.find? (fun x => x.kind == 0) = none := by
          rw [List.find?_eq_none]
          intro x hx
          have h1 := Hall.out
          rw [show k = n by omega, Hn.out, List.take_length] at h1
          simpa using List.all_eq_true.1 h1 x hx
        unfold wide
        rw [this]
      go_wp2_with fail
      go_ret
      exact ⟨by rw [Hr.out]; rfl, rfl⟩

set_option maxHeartbeats 400000 in
theorem l3Node_any (v : Value) (nd : Node) (at_ : Int) (wd : Nat) (w : World) (h : NV w v nd) (ha0 : 0 ≤ at_) (ha1 : at_ ≤ 1000000000) :
    Calls Tryz.prog 58 #[v, .int .i64 at_, .int .i64 wd] w fun e w' => e = .returned (.bool (nodeOk nd at_ wd)) ∧ w.grownBy w' none := by
  obtain ⟨f, r, rfl, hf, hr⟩ := h
  have hfl := hf.le
  have hrl := hr.le
  obtain ⟨Af, nf, cf, rfl, _, hnf⟩ := hf.form'
  obtain ⟨Ar, nr, cr, rfl, _, hnr⟩ := hr.form'
  rw [← hnf] at hfl
  rw [← hnr] at hrl
  have Hnf := Lib.hid hnf
  have Hnr := Lib.hid hnr
  clear hnf hnr
  have hrW := hr.alloc (.cells #[.int .i64 nd.kind, .slice Af nf cf, .slice Ar nr cr] 52)
  have hfW := hf.alloc (.cells #[.int .i64 nd.kind, .slice Af nf cf, .slice Ar nr cr] 52)
  have hG : Hid (w.grownBy (w.alloc (.cells #[.int .i64 nd.kind, .slice Af nf cf, .slice Ar nr cr] 52)) none) := World.grownBy_alloc _ _ _
  clear hf hr
  by_cases hk : kindNeeds nd.kind = nf
  · have hb : (kindNeeds nd.kind != (nf : Int)) = false := by simpa using hk
    clear hk
    by_cases hv : rowValid nd.row = true
    · have Hv := Lib.hid hv
      clear hv
      go_enter Tryz.func58, Tryz.ntmps58
      go_wp2_with fail
      go_quiet ((first
        | (go_at_call 83; exact quiet_l (specKindNeeds_any _ _))
        | (go_at_call 84; exact quiet_l (specRowValid_b _ _ _ (by exact hrW) Hv.out))))
      go_wp2_with fail
      go_loop [7] (fun i => ∃ k : Nat, k ≤ nf ∧ i = .int .i64 k ∧ (nd.frm.take k).all (fun y => decide (0 ≤ y) && decide (y ≤ at_ - 1)) = true) (fun i => nf - (intOf i).toNat)
      case atStart => exact ⟨0, Nat.zero_le _, rfl, rfl⟩
      case round =>
        obtain ⟨k, hk, rfl, hall⟩ := hrel
        have Hall := Lib.hid hall
        clear hall
        by_cases hlt : k < nf
        · obtain ⟨g, o, x, rfl, hx, hcell⟩ := hfW.at_ hlt
          have Hx := Lib.hid hx
          clear hx
          by_cases hin : (decide (0 ≤ x) && decide (x ≤ at_ - 1)) = true
          · have Hin := Lib.hid hin
            go_wp2_with fail
            refine (l6In_any _ _ _ _).mono ?_
            rw [hin]
            clear hin
            rintro e w' ⟨rfl, rfl⟩
            go_wp2_with fail
            go_round
            case rel => exact ⟨k + 1, by omega, by go_num, by rw [all_snoc _ Hx.out, Hall.out, Hin.out]; rfl⟩
            case measure => simp [intOf]; omega
          · have hin' : (decide (0 ≤ x) && decide (x ≤ at_ - 1)) = false := by simpa using hin
            have Hr : Hid (nodeOk nd at_ wd = false) := by
              show nodeOk nd at_ wd = false
              have : nd.frm.all (fun y => decide (0 ≤ y) && decide (y ≤ at_ - 1)) = false := by
                rw [List.all_eq_false]
                exact ⟨x, List.mem_of_getElem? Hx.out, by simpa using hin⟩
              unfold nodeOk
              rw [this]
              simp
            clear hin
            go_wp2_with fail
            refine (l6In_any _ _ _ _).mono ?_
            rw [hin']
            clear hin'
            rintro e w' ⟨rfl, rfl⟩
            go_wp2_with fail
            go_ret
            exact ⟨by rw [Hr.out]; rfl, gb_drewN hG.out _⟩
        · have Hr : Hid (nodeOk nd at_ wd = if nd.kind = 0 then decide (nr = wd) else decide (nr = 0)) := by
            show nodeOk nd at_ wd = if nd.kind = 0 then decide (nr = wd) else decide (nr = 0)
            have h1 := Hall.out
            rw [show k = nf by omega, Hnf.out, List.take_length] at h1
            have h2 : kindNeeds nd.kind = (nd.frm.length : Int) := by rw [← Hnf.out]; simpa using hb
            unfold nodeOk
            rw [h1, h2, Hv.out, Hnr.out]
            simp
          by_cases hk0 : nd.kind = 0
          · have Hr' : Hid (nodeOk nd at_ wd = ((nr : Int) == (wd : Int))) := by
              show nodeOk nd at_ wd = ((nr : Int) == (wd : Int))
              rw [Hr.out, if_pos hk0, Bool.eq_iff_iff]
              simp
              omega
            have hb0 : (nd.kind == 0) = true := by simpa using hk0
            clear hk0 Hr
            go_wp2_with fail
            go_ret
            exact ⟨by rw [Hr'.out]; rfl, gb_drewN hG.out _⟩
          · have Hr' : Hid (nodeOk nd at_ wd = ((nr : Int) == 0)) := by
              show nodeOk nd at_ wd = ((nr : Int) == 0)
              rw [Hr.out, if_neg hk0, Bool.eq_iff_iff]
              simp
            have hb0 : (nd.kind == 0) = false := by simpa using hk0
            clear hk0 Hr
            go_wp2_with fail
            go_ret
            exact ⟨by rw [Hr'.out]; rfl, gb_drewN hG.out _⟩
    · have hv' : rowValid nd.row = false := by simpa using hv
      have Hr : Hid (nodeOk nd at_ wd = false) := by
        show nodeOk nd at_ wd = false
        unfold nodeOk
        rw [hv']
        simp
      have Hv := Lib.hid hv'
      clear hv hv'
      go_enter Tryz.func58, Tryz.ntmps58
      go_wp2_with fail
      go_quiet ((first
        | (go_at_call 83; exact quiet_l (specKindNeeds_any _ _))
        | (go_at_call 84; exact quiet_l (specRowValid_b _ _ _ (by exact hrW) Hv.out))))
      go_wp2_with fail
      go_ret
      exact ⟨by rw [Hr.out]; rfl, gb_drewN hG.out _⟩
  · have hb : (kindNeeds nd.kind != (nf : Int)) = true := by simpa using hk
    have Hr : Hid (nodeOk nd at_ wd = false) := by
      show nodeOk nd at_ wd = false
      unfold nodeOk
      rw [show decide (kindNeeds nd.kind = (nd.frm.length : Int)) = false by rw [← Hnf.out]; simpa using hk]
      simp
    clear hk
    go_enter Tryz.func58, Tryz.ntmps58
    go_wp2_with fail
    go_quiet ((first
      | (go_at_call 83; exact quiet_l (specKindNeeds_any _ _))
      | (go_at_call 84; exact quiet_l (specRowValid_any _ _ _ (by exact hrW)))))
    go_wp2_with fail
    go_ret
    exact ⟨by rw [Hr.out]; rfl, gb_drewN hG.out _⟩

theorem l3Node_b (v : Value) (nd : Node) (at_ : Int) (wd : Nat) (w : World) (h : NV w v nd) (ha0 : 0 ≤ at_) (ha1 : at_ ≤ 1000000000) {b : Bool} (hb : nodeOk nd at_ wd = b) :
    Calls Tryz.prog 58 #[v, .int .i64 at_, .int .i64 wd] w fun e w' => e = .returned (.bool b) ∧ w.grownBy w' none := hb ▸ l3Node_any v nd at_ wd w h ha0 ha1

set_option maxHeartbeats 400000 in
theorem specPlanValid_any (v : Value) (plan : List Node) (w : World) (h : RN w v plan) (hl : plan.length ≤ 1000000000) :
    Calls Tryz.prog 36 #[v] w fun e w' => e = .returned (.bool (planValid plan)) ∧ w.grownBy w' none := by
  obtain ⟨A, n, c, rfl, _, hn, _⟩ := h.form'
  rw [← hn] at hl
  have Hn := Lib.hid hn
  clear hn
  go_enter Tryz.func36, Tryz.ntmps36
  go_wp2_with fail
  go_loopw [3] (fun i wr => ∃ k : Nat, k ≤ n ∧ i = .int .i64 k ∧ (plan.zipIdx.take k).all (fun x => nodeOk x.1 x.2 (wide plan)) = true ∧ w.grownBy wr none) (fun i _ => n - (intOf i).toNat)
  case atStart => exact ⟨0, Nat.zero_le _, rfl, rfl, gb_refl _ _⟩
  case round =>
    obtain ⟨k, hk, rfl, hall, hg⟩ := hrel
    have Hall := Lib.hid hall
    clear hall
    have hwr := h.new hg
    by_cases hlt : k < n
    · obtain ⟨g, o, nd, f, r, rfl, hx, c0, c1, c2, hf, hr⟩ := hwr.at_ hlt
      have Hx := Lib.hid hx
      clear hx
      have hnv : NV wr (.agg #[.int .i64 nd.kind, f, r]) nd := ⟨f, r, rfl, hf, hr⟩
      by_cases hno : nodeOk nd k (wide plan) = true
      · have Hno := Lib.hid hno
        clear hno
        go_wp2_with fail
        go_region_held3 (fun w' => w'.cell? ⟨g, o + k * 3, none⟩ = some (.int .i64 nd.kind) ∧ w'.cell? ⟨g, o + k * 3 + 1, none⟩ = some f ∧ w'.cell? ⟨g, o + k * 3 + 2, none⟩ = some r) (go_keep)
          (first
            | (go_at_call 59; refine (l3Wide_any _ plan _ (by exact hwr)).mono ?_; rintro e w' ⟨rfl, rfl⟩)
            | (go_at_call 58; refine (l3Node_b _ nd k (wide plan) _ (by exact hnv) (by omega) (by omega) Hno.out).mono ?_; rintro e w' ⟨rfl, hg'⟩; have k0 := hg'.cell (by exact c0) (by simp); have k1 := hg'.cell (by exact c1) (by simp); have k2 := hg'.cell (by exact c2) (by simp)))
        go_wp2_with fail
        go_roundw
        case rel => exact ⟨k + 1, by omega, by go_num, by rw [all_snoc _ (zipIdx_get Hx.out), Hall.out]; exact Hno.out, gb_trans (gb_drew hg) (by assumption)⟩
        case measure => simp [intOf]; omega
      · have hno' : nodeOk nd k (wide plan) = false := by simpa using hno
        have Hno := Lib.hid hno'
        have Hr : Hid (planValid plan = false) := by
          show planValid plan = false
          have : plan.zipIdx.all (fun x => nodeOk x.1 x.2 (wide plan)) = false := by
            rw [List.all_eq_false]
            exact ⟨(nd, k), List.mem_of_getElem? (zipIdx_get Hx.out), hno⟩
          unfold planValid
          rw [this]
          simp
        clear hno hno'
        go_wp2_with fail
        go_region_held3 (fun w' => w'.cell? ⟨g, o + k * 3, none⟩ = some (.int .i64 nd.kind) ∧ w'.cell? ⟨g, o + k * 3 + 1, none⟩ = some f ∧ w'.cell? ⟨g, o + k * 3 + 2, none⟩ = some r) (go_keep)
          (first
            | (go_at_call 59; refine (l3Wide_any _ plan _ (by exact hwr)).mono ?_; rintro e w' ⟨rfl, rfl⟩)
            | (go_at_call 58; refine (l3Node_b _ nd k (wide plan) _ (by exact hnv) (by omega) (by omega) Hno.out).mono ?_; rintro e w' ⟨rfl, hg'⟩; have k0 := hg'.cell (by exact c0) (by simp); have k1 := hg'.cell (by exact c1) (by simp); have k2 := hg'.cell (by exact c2) (by simp)))
        go_wp2_with fail
        go_ret
        exact ⟨by rw [Hr.out]; rfl, gb_trans (gb_drew hg) (by assumption)⟩
    · have Hr : Hid (planValid plan = decide ((n : Int) ≤ 10)) := by
        show planValid plan = decide ((n : Int) ≤ 10)
        have h1 := Hall.out
        rw [List.take_of_length_le (by rw [List.length_zipIdx, ← Hn.out]; omega)] at h1
        unfold planValid
        rw [h1, Bool.true_and, ← Hn.out]
        exact decide_eq_decide.2 (by omega)
      go_wp2_with fail
      go_ret
      exact ⟨by rw [Hr.out]; rfl, hg⟩
theorem specPlanValid_b (v : Value) (plan : List Node) (w : World) (h : RN w v plan) (hl : plan.length ≤ 1000000000) {b : Bool} (hb : planValid plan = b) :
    Calls Tryz.prog 36 #[v] w fun e w' => e = .returned (.bool b) ∧ w.grownBy w' none := hb ▸ specPlanValid_any v plan w h hl
end Go.Proofs.YtihobnheficpjaaGreat
namespace Go.Proofs.YtihobnheficpjaaGreat
open Go.RowKit

theorem order_bad {plan : List Node} {D : List Int} {k : Nat} {x : Int} (h : D[k]? = some x) (hs : stepOk plan (D.take k) x = false) : orderOk plan D = false := by
  obtain ⟨hk, rfl⟩ := List.getElem?_eq_some_iff.1 h
  rcases Bool.eq_false_or_eq_true (orderOk plan D) with e | e
  · rw [order_step e hk] at hs
    cases hs
  · exact e
theorem order_next {plan : List Node} {D : List Int} {k : Nat} {x : Int} (h : D[k]? = some x) (ho : orderTo plan D k = true) (hs : stepOk plan (D.take k) x = true) : orderTo plan D (k + 1) = true := by
  rw [orderTo_succ, ho, List.getD_eq_getElem?_getD, h]
  exact hs
theorem dedup_snoc (l : List Int) (x : Int) : dedup (l ++ [x]) = if x.toNat ∈ dedup l then dedup l else dedup l ++ [x.toNat] := by
  unfold dedup
  rw [List.foldl_append]
  rfl
theorem mem_dedup_int {l : List Int} (hl : ∀ y ∈ l, 0 ≤ y) {x : Int} (hx : 0 ≤ x) : x.toNat ∈ dedup l ↔ x ∈ l := by
  rw [mem_dedup]
  constructor
  · rintro ⟨f, hf, e⟩
    have := hl f hf
    obtain rfl : f = x := by omega
    exact hf
  · exact fun h => ⟨x, h, rfl⟩
theorem countsOf_frm (plan : List Node) : countsOf plan = (List.range plan.length).map fun i => ((dedup (frmAt plan i)).length : Int) := by
  unfold countsOf
  simp only [needsOf_frm]
set_option maxHeartbeats 800000 in
set_option maxRecDepth 20000 in
theorem l13Order_b (v v' : Value) (plan : List Node) (order : List Int) (w : World) (h : RN w v plan) (h' : RI w v' order) (hl : plan.length ≤ 1000000000) {b : Bool} (hb : orderOk plan order = b) :
    Calls Tryz.prog 37 #[v, v'] w fun e w' => e = .returned (.bool b) ∧ w.grownBy w' none := by
  obtain ⟨A, n, c, rfl, hnc, hn, -⟩ := h.form'
  obtain ⟨B, m, c', rfl, hmc, hm⟩ := h'.form'
  have hle := h'.le
  rw [← hm] at hle
  have hn9 : n ≤ 1000000000 := by omega
  have Hn := Lib.hid hn
  have Hm := Lib.hid hm
  have Hb := Lib.hid hb
  clear hn hm hb hl
  go_enter Tryz.func37, Tryz.ntmps37
  go_wp2_with fail
  go_loopg [5] (m + 1) (fun mm i wr => ∃ k : Nat, k ≤ m ∧ mm = m + 1 - k ∧ i = .int .i64 k ∧ Hid (orderTo plan order k = true) ∧ w.grownBy wr none)
  case atStart => exact ⟨0, Nat.zero_le _, rfl, rfl, by show _ = _; rfl, gb_refl _ _⟩
  case round =>
    obtain ⟨k, hk, rfl, rfl, Hk, hg⟩ := hrel
    by_cases hlt : k < m
    · obtain ⟨g, o, x, rfl, hx, c0⟩ := (h'.new hg).at_ hlt
      have Hx := Lib.hid hx
      have ht := (h'.new hg).take (k := k) (by omega)
      have hkc : k ≤ c' := by omega
      clear hx
      by_cases hin : 0 ≤ x ∧ x ≤ (n : Int) - 1
      · have Hin : Hid ((decide (0 ≤ x) && decide (x ≤ (n : Int) - 1)) = true) := by show _ = _; simp [hin.1, hin.2]
        obtain ⟨j, rfl⟩ := Int.eq_ofNat_of_zero_le hin.1
        have hj : j < n := by omega
        clear hin
        obtain ⟨g2, o2, nd, f, r, rfl, hnd, d0, d1, d2, hf, -⟩ := (h.new hg).at_ hj
        have hfr : Hid (frmAt plan j = nd.frm) := frmAt_get hnd
        clear hnd d0 d2
        obtain ⟨Af, nf, cf, rfl⟩ := hf.val
        by_cases hD : (j : Int) ∈ order.take k
        · have HD : Hid (decide ((j : Int) ∈ order.take k) = true) := decide_eq_true hD
          have Hr : Hid (b = false) := by
            show _ = _
            rw [← Hb.out]
            refine order_bad Hx.out ?_
            unfold stepOk
            rw [decide_eq_true hD]
            simp
          clear hD Hk
          go_wp2_with fail
          go_quiet ((first
            | (go_at_call 19; exact quiet_l (l6In_b _ _ _ _ Hin.out))
            | (go_at_call 42; exact quiet_l (l3Has_b _ _ _ _ (by exact ht) HD.out))))
          go_wp2_with fail
          go_ret
          exact ⟨by rw [Hr.out]; rfl, gb_drewN hg _⟩
        · have HD : Hid (decide ((j : Int) ∈ order.take k) = false) := decide_eq_false hD
          by_cases hall : (nd.frm.all fun y => decide (y ∈ order.take k)) = true
          · have Hall := Lib.hid hall
            have Hs : Hid (orderTo plan order (k + 1) = true) := by
              refine order_next Hx.out Hk.out (stepOk_iff.2 ⟨Int.natCast_nonneg j, by rw [← Hn.out]; omega, hD, ?_⟩)
              rw [Int.toNat_natCast, hfr.out]
              intro y hy
              exact of_decide_eq_true (List.all_eq_true.1 hall y hy)
            clear hD hall Hk
            go_wp2_with fail
            go_quiet ((first
              | (go_at_call 19; exact quiet_l (l6In_b _ _ _ _ Hin.out))
              | (go_at_call 42; exact quiet_l (l3Has_b _ _ _ _ (by exact ht) HD.out))
              | (go_at_call 60; exact quiet_l (l5All_b _ _ _ nd.frm _ (by exact ht) (by exact hf) Hall.out))))
            go_wp2_with fail
            go_roundg (m + 1 - (k + 1))
            case measure => omega
            case rel => exact ⟨k + 1, by omega, rfl, by go_num, Hs, gb_drewN hg _⟩
          · have hall' : (nd.frm.all fun y => decide (y ∈ order.take k)) = false := by simpa using hall
            have Hall := Lib.hid hall'
            have Hr : Hid (b = false) := by
              show _ = _
              rw [← Hb.out]
              refine order_bad Hx.out ?_
              unfold stepOk
              rw [Int.toNat_natCast, hfr.out, hall']
              simp
            clear hD hall hall' Hk
            go_wp2_with fail
            go_quiet ((first
              | (go_at_call 19; exact quiet_l (l6In_b _ _ _ _ Hin.out))
              | (go_at_call 42; exact quiet_l (l3Has_b _ _ _ _ (by exact ht) HD.out))
              | (go_at_call 60; exact quiet_l (l5All_b _ _ _ nd.frm _ (by exact ht) (by exact hf) Hall.out))))
            go_wp2_with fail
            go_ret
            exact ⟨by rw [Hr.out]; rfl, gb_drewN hg _⟩
      · have Hin : Hid ((decide (0 ≤ x) && decide (x ≤ (n : Int) - 1)) = false) := by
          show _ = _
          rw [Bool.and_eq_false_iff, decide_eq_false_iff_not, decide_eq_false_iff_not]
          omega
        have Hr : Hid (b = false) := by
          show _ = _
          rw [← Hb.out]
          refine order_bad Hx.out ?_
          rcases Bool.eq_false_or_eq_true (stepOk plan (order.take k) x) with e | e
          · obtain ⟨h1, h2, _⟩ := stepOk_iff.1 e
            rw [← Hn.out] at h2
            exact absurd ⟨h1, by omega⟩ hin
          · exact e
        clear hin Hk
        go_wp2_with fail
        go_quiet ((first
          | (go_at_call 19; exact quiet_l (l6In_b _ _ _ _ Hin.out))))
        go_wp2_with fail
        go_ret
        exact ⟨by rw [Hr.out]; rfl, gb_drewN hg _⟩
    · obtain rfl : k = m := by omega
      have Hr : Hid (b = true) := by
        show _ = _
        rw [← Hb.out]
        have := Hk.out
        rw [Hm.out] at this
        exact this
      clear Hk
      go_wp2_with fail
      go_ret
      exact ⟨by rw [Hr.out]; rfl, hg⟩
end Go.Proofs.YtihobnheficpjaaGreat
namespace Go.Proofs.YtihobnheficpjaaGreat
open Go.RowKit

theorem run_append_room_off {P : Program} (w : World) (t ty e : TypeId) (i : TypeInfo) (ht : P.underlying t = some (.slice e)) (hi : P.info? e = some i)
    (g o sLen sCap : Nat) (cur : Array Value) (hg : w.heap[g]? = some (.cells cur e (0, 0)))
    (a : Addr) (m c : Nat) (news : List Value) (hl : news.length = m * i.size) (hnews : ∀ j u, news[j]? = some u → w.cell? (a.add j) = some u) (h1 : ∀ u ∈ news, u.oneCell' = true)
    (hroom : sLen + m ≤ sCap) (hfit : o + sLen * i.size + news.length ≤ cur.size) :
    (Builtin.append_ #[t, t] ty #[.slice (some ⟨g, o, none⟩) sLen sCap, .slice (some a) m c]).run P w =
      .ok (.slice (some ⟨g, o, none⟩) (sLen + m) sCap) (w.setRow g (cur.toList.take (o + sLen * i.size) ++ news ++ cur.toList.drop (o + sLen * i.size + news.length)).toArray) := by
  have hf := run_firstCells_some (P := P) w i.size m a m c news hl hnews
  have hst := run_storeCells_at P g (o + sLen * i.size) e news 0 cur w hg (by simpa using hfit) h1
  simp only [Nat.add_zero] at hst
  simp [Builtin.append_, run_underlying ht, sizeOf, typeInfo, hi, Builtin.lenOf, hroom, hf, Addr.add_lit, hst]

/-- A slice with the one-cell elements xs, in a block of the call's own, from wherever in it. -/
def QS (w : World) (base : Nat) (E : TypeId) (v : Value) (xs : List Value) : Prop :=
  ∃ A c, v = .slice A xs.length c ∧ xs.length ≤ c ∧ c ≤ maxLen ∧ (∀ u ∈ xs, u.oneCell' = true) ∧
    ((A = none ∧ c = 0) ∨ ∃ g o cur, A = some ⟨g, o, none⟩ ∧ base ≤ g ∧ Blk w g E cur ∧ o + c ≤ cur.size ∧ ∀ j u, xs[j]? = some u → cur[o + j]? = some u)
section
variable {w w' : World} {base : Nat} {E : TypeId} {v : Value} {xs : List Value}
theorem QS.nil (w : World) (base : Nat) (E : TypeId) : QS w base E (.slice none 0 0) [] := ⟨none, 0, rfl, by simp, by simp, by simp, .inl ⟨rfl, rfl⟩⟩
theorem QS.form (h : QS w base E v xs) : ∃ A c, v = .slice A xs.length c ∧ xs.length ≤ c ∧ c ≤ maxLen := let ⟨A, c, h1, h2, h3, _⟩ := h; ⟨A, c, h1, h2, h3⟩
theorem QS.ts (h : QS w base E v xs) : TS w E 1 v xs.length xs := by
  obtain ⟨A, c, h1, h2, h3, _, h5⟩ := h
  rcases h5 with ⟨h4, h5⟩ | ⟨g, o, cur, k1, k2, k3, k4, k5⟩
  · exact ⟨by simp, A, c, h1, h2, h3, fun _ => h5, by left; omega⟩
  · subst k1
    exact ⟨by simp, _, c, h1, h2, h3, by simp, .inr ⟨g, o, cur, rfl, k3, k5⟩⟩
theorem QS.lt (h : QS w base E v xs) : ∀ g, v.ownBlock = some g → base ≤ g ∧ g < w.heap.size := by
  obtain ⟨A, c, rfl, h2, h3, _, h5⟩ := h
  intro g' hg'
  rcases h5 with ⟨rfl, h5⟩ | ⟨g, o, cur, rfl, k2, k3, k4, k5⟩
  · cases hg'
  · cases hg'
    exact ⟨k2, k3.lt⟩
theorem QS.notE {E' : TypeId} (h : QS w base E v xs) (hE : E' ≠ E) : NotE w E' v.ownBlock := by
  obtain ⟨A, c, rfl, h2, h3, _, h5⟩ := h
  rcases h5 with ⟨rfl, h5⟩ | ⟨g, o, cur, rfl, k2, k3, k4, k5⟩
  · exact NotE.none _ _
  · exact NotE.blk k3 hE
theorem QS.gb {a : World} {row : Option Nat} (h : QS w base E v xs) (hg : a.grownBy w row) (k : w.grownBy w' v.ownBlock) (hb : a.heap.size ≤ base) : a.grownBy w' row :=
  gb_new hg k (fun g e => .inl (Nat.le_trans hb (h.lt g e).1))
theorem QS.grown {row : Option Nat} (h : QS w base E v xs) (hg : w.grownBy w' row) (hr : NotE w E row) : QS w' base E v xs := by
  obtain ⟨A, c, h1, h2, h3, h6, h5⟩ := h
  refine ⟨A, c, h1, h2, h3, h6, ?_⟩
  rcases h5 with h5 | ⟨g, o, cur, k1, k2, k3, k4, k5⟩
  · exact .inl h5
  · exact .inr ⟨g, o, cur, k1, k2, k3.grown hg (fun e => hr g e.symm cur k3), k4, k5⟩
theorem QS.new (h : QS w base E v xs) (hg : w.grownBy w' none) : QS w' base E v xs := h.grown hg (NotE.none _ _)
/-- Its block stands if another one turns. -/
theorem QS.apart {row : Option Nat} (h : QS w base E v xs) (hg : w.grownBy w' row) (hr : v.ownBlock = none ∨ v.ownBlock ≠ row) : QS w' base E v xs := by
  obtain ⟨A, c, h1, h2, h3, h6, h5⟩ := h
  refine ⟨A, c, h1, h2, h3, h6, ?_⟩
  rcases h5 with h5 | ⟨g, o, cur, k1, k2, k3, k4, k5⟩
  · exact .inl h5
  · subst h1 k1
    refine .inr ⟨g, o, cur, rfl, k2, k3.grown hg (fun e => ?_), k4, k5⟩
    rcases hr with hr | hr
    · cases hr
    · exact hr e
theorem QS.at_ {A : Option Addr} {n c k : Nat} {u : Value} (h : QS w base E (.slice A n c) xs) (hk : xs[k]? = some u) : ∃ g o, A = some ⟨g, o, none⟩ ∧ w.cell? ⟨g, o + k, none⟩ = some u := by
  obtain ⟨A', c', h1, h2, h3, _, h5⟩ := h
  injection h1 with e1 e2 e3
  subst e1 e3
  have := (List.getElem?_eq_some_iff.1 hk).1
  rcases h5 with ⟨h4, h5⟩ | ⟨g, o, cur, k1, k2, k3, k4, k5⟩
  · omega
  · exact ⟨g, o, k1, (k3.cell _).trans (k5 k u hk)⟩
/-- Without the first element: 's[1:]'. -/
theorem QS.tail {A : Option Addr} {n c : Nat} {x : Value} (h : QS w base E (.slice A n c) (x :: xs)) :
    ∃ g o, A = some ⟨g, o, none⟩ ∧ n = xs.length + 1 ∧ 1 ≤ c ∧ QS w base E (.slice (some ⟨g, o + 1, none⟩) (n - 1) (c - 1)) xs ∧ (c = 1 → QS w base E (.slice (some ⟨g, o, none⟩) (n - 1) (c - 1)) xs) := by
  obtain ⟨A', c', h1, h2, h3, h6, h5⟩ := h
  injection h1 with e1 e2 e3
  subst e1 e3
  rw [List.length_cons] at h2 e2
  rcases h5 with ⟨h4, h5⟩ | ⟨g, o, cur, k1, k2, k3, k4, k5⟩
  · omega
  · have e : n - 1 = xs.length := by omega
    rw [e]
    refine ⟨g, o, k1, e2, by omega, ⟨_, _, rfl, by omega, by omega, fun u hu => h6 u (by simp [hu]), ?_⟩, fun hc => ⟨_, _, rfl, by omega, by omega, fun u hu => h6 u (by simp [hu]), ?_⟩⟩
    · refine .inr ⟨g, o + 1, cur, rfl, k2, k3, by omega, fun j u hu => ?_⟩
      have := k5 (j + 1) u (by simpa using hu)
      rw [show o + 1 + j = o + (j + 1) by omega]
      exact this
    · refine .inr ⟨g, o, cur, rfl, k2, k3, by omega, fun j u hu => ?_⟩
      have := (List.getElem?_eq_some_iff.1 hu).1
      omega
/-- .. without the last one: 's[:n-1]'. -/
theorem QS.init {A : Option Addr} {n c : Nat} {x : Value} (h : QS w base E (.slice A n c) (xs ++ [x])) : n = xs.length + 1 ∧ n ≤ c ∧ QS w base E (.slice A xs.length c) xs := by
  obtain ⟨A', c', h1, h2, h3, h6, h5⟩ := h
  injection h1 with e1 e2 e3
  subst e1 e3
  rw [List.length_append, List.length_singleton] at h2 e2
  refine ⟨e2, by omega, _, _, rfl, by omega, h3, fun u hu => h6 u (by simp [hu]), ?_⟩
  rcases h5 with h5 | ⟨g, o, cur, k1, k2, k3, k4, k5⟩
  · exact .inl h5
  · exact .inr ⟨g, o, cur, k1, k2, k3, k4, fun j u hu => k5 j u ((List.getElem?_append_left (List.getElem?_eq_some_iff.1 hu).1).trans hu)⟩
theorem QS.of_own {n : Nat} (h : w.ownsRow base E 1 v n xs) (h1 : ∀ u ∈ xs, u.oneCell' = true) : QS w base E v xs := by
  have hn : n = xs.length := by have := h.1; omega
  subst hn
  rcases h.2 with ⟨rfl, h0⟩ | ⟨g, cap, cur, rfl, hb, hg, hn, hm, hcs, ht⟩
  · have : xs = [] := List.eq_nil_of_length_eq_zero h0
    subst this
    exact QS.nil _ _ _
  · refine ⟨_, cap, rfl, hn, hm, h1, .inr ⟨g, 0, cur, rfl, hb, hg, by omega, fun j u hu => ?_⟩⟩
    rw [← ht, List.getElem?_take] at hu
    split at hu
    · simpa using hu
    · cases hu
end
theorem OwnI.low {w : World} {a b : Nat} {v : Value} {l : List Int} (h : OwnI w a v l) (hab : b ≤ a) : OwnI w b v l := by
  refine ⟨h.1, ?_⟩
  rcases h.2 with h0 | ⟨g, cap, cur, h1, h2, h3⟩
  · exact .inl h0
  · exact .inr ⟨g, cap, cur, h1, Nat.le_trans hab h2, h3⟩
theorem OwnI.qs {w : World} {base : Nat} {v : Value} {l : List Int} (h : OwnI w base v l) : QS w base 3 v (l.map (.int .i64)) := QS.of_own h (fun u hu => by
  obtain ⟨x, _, rfl⟩ := List.mem_map.1 hu
  rfl)
theorem QS.ri {w : World} {base : Nat} {v : Value} {l : List Int} (h : QS w base 3 v (l.map (.int .i64))) : RI w v l := by
  have := h.ts
  rw [List.length_map] at this
  exact this
theorem QS.ptr {w : World} {base : Nat} {E : TypeId} {v : Value} {l : List Nat} {f : Nat → Value} (h : QS w base E v (l.map f)) : ∃ A c, v = .slice A l.length c ∧ l.length ≤ c := by
  obtain ⟨A, c, h1, h2, _⟩ := h.form
  rw [List.length_map] at h1 h2
  exact ⟨A, c, h1, h2⟩

/-- 'append(s, x)' of one element, whatever room there is: the element lies in a block of its own. -/
theorem append_qs {P : Program} {w : World} {base : Nat} {t ty E : TypeId} {z : Value} {bytes : Nat} (ht : P.underlying t = some (.slice E)) (hinf : (P.info? E).map (fun i => (i.zero, i.size, i.bytes)) = some (some z, 1, bytes))
    (hzs : z.cells.size = 1) (hby : bytes ≤ 128) {v : Value} {xs : List Value} (h : QS w base E v xs) {ad : Addr} {c : Nat} {u : Value} (hnew : w.cell? ad = some u) (h1 : u.oneCell' = true) (hn : xs.length ≤ 1000000000) (hbase : base ≤ w.heap.size) :
    ∃ v' w', (Builtin.append_ #[t, t] ty #[v, .slice (some ad) 1 c]).run P w = .ok v' w' ∧ QS w' base E v' (xs ++ [u]) ∧ w.grownBy w' v.ownBlock ∧ (v'.ownBlock = v.ownBlock ∨ v'.ownBlock = some w.heap.size) := by
  obtain ⟨i, hi, hz0, hz1, hz2⟩ := info_parts hinf
  have hnews : ∀ (j : Nat) (u' : Value), [u][j]? = some u' → w.cell? (ad.add j) = some u' := by
    intro j u' hj
    match j, hj with
    | 0, hj =>
      simp at hj
      subst hj
      have : ad.add 0 = ad := by unfold Addr.add; split <;> simp_all
      rw [this]
      exact hnew
  have h1' : ∀ u' ∈ [u], u'.oneCell' = true := fun u' hu' => by simp at hu'; subst hu'; exact h1
  have hbb : (xs.length + 1) * bytes ≤ 140737488355328 := by
    calc (xs.length + 1) * bytes ≤ (xs.length + 1) * 128 := Nat.mul_le_mul_left _ hby
      _ ≤ 140737488355328 := by omega
  obtain ⟨A, cc, rfl, h2, h3, h6, h5⟩ := h
  have h1s : ∀ y ∈ xs ++ [u], y.oneCell' = true := fun y hy => by
    rcases List.mem_append.1 hy with hy | hy
    · exact h6 y hy
    · exact h1' y hy
  have h63 : xs.length + 1 ≤ maxLen := by unfold maxLen; omega
  -- a new block
  have grown : ∀ (b : Addr) (olds : List Value), olds = xs → A = some b → cc < xs.length + 1 → (∀ (j : Nat) (y : Value), xs[j]? = some y → w.cell? (b.add j) = some y) →
      ∃ v' w', (Builtin.append_ #[t, t] ty #[.slice A xs.length cc, .slice (some ad) 1 c]).run P w = .ok v' w' ∧ QS w' base E v' (xs ++ [u]) ∧ w.grownBy w' (Value.slice A xs.length cc).ownBlock ∧ (v'.ownBlock = (Value.slice A xs.length cc).ownBlock ∨ v'.ownBlock = some w.heap.size) := by
    rintro b olds rfl rfl hc holds
    have hr := run_append_grow (P := P) w t ty E i z ht hi hz0 b olds.length cc olds (by rw [hz1]; omega) holds ad 1 c [u] (by rw [hz1]; rfl) hnews (by omega) (by omega) (growslice_fits (by omega) (by rw [hz2]; exact hbb))
    have hge := grownCap_ge w (olds.length + 1) cc E
    have hcm := grownCap_le_maxLen w (olds.length + 1) cc E h63
    refine ⟨_, _, hr, ⟨_, _, by rw [List.length_append, List.length_singleton], by rw [List.length_append, List.length_singleton]; exact hge, hcm, h1s, .inr ⟨w.heap.size, 0, _, rfl, hbase, heap_alloc_new w.drew _, ?_, fun j y hj => ?_⟩⟩,
      ⟨rfl, rfl, rfl, by simp, fun k hk _ => Below.heap_alloc w.drew _ k hk⟩, .inr rfl⟩
    · rw [Array.size_append, Array.size_append, List.size_toArray, List.size_toArray, size_zeroCells, hzs]
      simp
      omega
    · rw [Nat.zero_add, Array.getElem?_append_left (by
        have := (List.getElem?_eq_some_iff.1 hj).1
        rw [Array.size_append, List.size_toArray, List.size_toArray]
        simpa using this)]
      rw [show olds.toArray ++ [u].toArray = (olds ++ [u]).toArray by simp, List.getElem?_toArray]
      exact hj
  rcases h5 with ⟨rfl, rfl⟩ | ⟨g, o, cur, rfl, k2, k3, k4, k5⟩
  · have hx0 : xs = [] := List.eq_nil_of_length_eq_zero (by omega)
    subst hx0
    have hr := run_append_nil (P := P) w t ty E i z ht hi hz0 ad 1 c [u] (by rw [hz1]; rfl) hnews (by omega) (by omega) (by rw [hz2]; omega)
    have hge := grownCap_ge w 1 0 E
    have hcm := grownCap_le_maxLen w 1 0 E (by unfold maxLen; omega)
    refine ⟨_, _, hr, ⟨_, _, rfl, hge, hcm, h1s, .inr ⟨w.heap.size, 0, _, rfl, hbase, heap_alloc_new w.drew _, ?_, fun j y hj => ?_⟩⟩,
      ⟨rfl, rfl, rfl, by simp, fun k hk _ => Below.heap_alloc w.drew _ k hk⟩, .inr rfl⟩
    · rw [Array.size_append, List.size_toArray, size_zeroCells, hzs]
      simp
      omega
    · rw [Nat.zero_add, Array.getElem?_append_left (by
        have := (List.getElem?_eq_some_iff.1 hj).1
        simpa using this), List.getElem?_toArray]
      exact hj
  · by_cases hroom : xs.length + 1 ≤ cc
    · have hr := run_append_room_off (P := P) w t ty E i ht hi g o xs.length cc cur k3 ad 1 c [u] (by rw [hz1]; rfl) hnews h1' hroom (by rw [hz1]; simp; omega)
      refine ⟨_, _, hr, ⟨_, _, by rw [List.length_append, List.length_singleton], by rw [List.length_append, List.length_singleton]; exact hroom, h3, h1s, .inr ⟨g, o, _, rfl, k2, setRow_heap w g cur _ E _ k3, ?_, fun j y hj => ?_⟩⟩,
        ⟨rfl, rfl, rfl, by simp, fun k _ hk => setRow_other w g k _ (fun e => hk (by simp [e, Value.ownBlock]))⟩, .inl rfl⟩
      · simp only [List.size_toArray, List.length_append, List.length_take, List.length_drop, Array.length_toList, List.length_singleton]
        rw [hz1]
        omega
      · rw [hz1, Nat.mul_one, List.getElem?_toArray, List.append_assoc]
        by_cases hj2 : j < xs.length
        · rw [List.getElem?_append_left (by simp; omega), List.getElem?_take, if_pos (by omega)]
          rw [List.getElem?_append_left hj2] at hj
          simpa using k5 j y hj
        · have hjl := (List.getElem?_eq_some_iff.1 hj).1
          rw [List.length_append, List.length_singleton] at hjl
          obtain rfl : j = xs.length := by omega
          rw [List.getElem?_append_right (by simp; omega)]
          rw [List.getElem?_append_right (by omega)] at hj
          simp only [Nat.sub_self] at hj
          rw [show o + xs.length - (cur.toList.take (o + xs.length)).length = 0 by simp; omega]
          simpa using hj
    · exact grown ⟨g, o, none⟩ xs rfl rfl (by omega) (fun j y hj => by
        rw [Addr.add_lit, k3.cell]
        exact k5 j y hj)
end Go.Proofs.YtihobnheficpjaaGreat
