/- Walks: spec.l6In, spec.RowValid. · Walks: impl.workOf, KindValid, KindNeeds. · Walks: impl.RowValid, impl.nodeFits. -/
import Derived.Test.YtihobnheficpjaaGreatDoorM05
import Derived.Test.YtihobnheficpjaaGreatDoorM01
import Derived.Deep.RegionHeld3
import Derived.Deep.DeepCutAuto
namespace Go.Proofs.YtihobnheficpjaaGreatDoor
open Go.RowKit

theorem l6In_any (n a b : Int) (w : World) :
    Calls Tryz.prog 53 #[.int .i64 n, .int .i64 a, .int .i64 b] w fun e w' => e = .returned (.bool (decide (a ≤ n) && decide (n ≤ b))) ∧ w = w' := by
  by_cases h : a ≤ n
  · rw [show (decide (a ≤ n) && decide (n ≤ b)) = decide (n ≤ b) by simp [h]]
    go_enter Tryz.func53, Tryz.ntmps53
    go_wp2
    go_ret
    exact ⟨rfl, rfl⟩
  · rw [show (decide (a ≤ n) && decide (n ≤ b)) = false by simp [h]]
    go_enter Tryz.func53, Tryz.ntmps53
    go_wp2
    go_ret
    exact ⟨rfl, rfl⟩

theorem specRowValid_any (v : Value) (l : List Int) (w : World) (h : RI w v l) :
    Calls Tryz.prog 148 #[v] w fun e w' => e = .returned (.bool (rowValid l)) ∧ w = w' := by
  obtain ⟨A, n, c, rfl, hc, hn⟩ := h.form'
  have hle := h.le
  rw [← hn] at hle
  have Hn := Lib.hid hn
  clear hn
  go_enter Tryz.func148, Tryz.ntmps148
  go_wp2
  go_loop [3] (fun i => ∃ k : Nat, k ≤ n ∧ i = .int .i64 k ∧ (l.take k).all inRow = true) (fun i => n - (intOf i).toNat)
  case atStart => exact ⟨0, Nat.zero_le _, rfl, rfl⟩
  case round =>
    obtain ⟨k, hk, rfl, hall⟩ := hrel
    have Hall := Lib.hid hall
    clear hall
    by_cases hlt : k < n
    · obtain ⟨g, o, x, rfl, hx, hcell⟩ := h.at_ hlt
      have Hx := Lib.hid hx
      clear hx
      go_wp2_with fail
      refine (l6In_any _ _ _ _).mono ?_
      rintro e w' ⟨rfl, rfl⟩
      by_cases hin : inRow x = true
      · have Hin := Lib.hid hin
        have hb : (decide ((0 : Int) ≤ x) && decide (x ≤ (1008 : Int))) = true := hin
        rw [hb]
        clear hin hb
        go_wp2_with fail
        go_round
        case rel => exact ⟨k + 1, by omega, by go_num, by rw [all_snoc _ Hx.out, Hall.out, Hin.out]; rfl⟩
        case measure => simp [intOf]; omega
      · have hb : (decide ((0 : Int) ≤ x) && decide (x ≤ (1008 : Int))) = false := by simpa [inRow] using hin
        have Hr : Hid (rowValid l = false) := by
          show rowValid l = false
          unfold rowValid
          rw [Bool.and_eq_false_iff]
          left
          rw [List.all_eq_false]
          exact ⟨x, List.mem_of_getElem? Hx.out, hin⟩
        rw [hb]
        clear hin hb
        go_wp2_with fail
        go_ret
        exact ⟨by rw [Hr.out]; rfl, rfl⟩
    · have hkn : k = n := by omega
      have Hr : Hid (rowValid l = decide ((n : Int) ≤ 6)) := by
        show rowValid l = decide ((n : Int) ≤ 6)
        have h1 := Hall.out
        rw [hkn, Hn.out, List.take_length] at h1
        rw [rowValid, h1, Hn.out, Bool.true_and]
        exact decide_eq_decide.2 (by omega)
      clear hkn
      go_wp2_with fail
      go_ret
      exact ⟨by rw [Hr.out]; rfl, rfl⟩
theorem specRowValid_b (v : Value) (l : List Int) (w : World) (h : RI w v l) {b : Bool} (hb : rowValid l = b) :
    Calls Tryz.prog 148 #[v] w fun e w' => e = .returned (.bool b) ∧ w = w' := hb ▸ specRowValid_any v l w h
theorem l6In_b (n a b : Int) (w : World) {c : Bool} (hc : (decide (a ≤ n) && decide (n ≤ b)) = c) :
    Calls Tryz.prog 53 #[.int .i64 n, .int .i64 a, .int .i64 b] w fun e w' => e = .returned (.bool c) ∧ w = w' := hc ▸ l6In_any n a b w

theorem specKindValid_any (k : Int) (w : World) :
    Calls Tryz.prog 177 #[.int .i64 k] w fun e w' => e = .returned (.bool (kindValid k)) ∧ w = w' := by
  go_enter Tryz.func177, Tryz.ntmps177
  go_wp2_with fail
  refine (l6In_any _ _ _ _).mono ?_
  rintro e w' ⟨rfl, rfl⟩
  go_wp2_with fail
  go_ret
  exact ⟨rfl, rfl⟩

theorem specKindNeeds_any (k : Int) (w : World) :
    Calls Tryz.prog 147 #[.int .i64 k] w fun e w' => e = .returned (.int .i64 (kindNeeds k)) ∧ w = w' := by
  by_cases hk : k < 0 ∨ 5 < k
  · have hv : kindValid k = false := by
      unfold kindValid
      simp only [Bool.and_eq_false_iff, decide_eq_false_iff_not]
      omega
    have H : Hid (kindNeeds k = -1) := by show kindNeeds k = -1; unfold kindNeeds; rw [if_pos hk]
    clear hk
    go_enter Tryz.func147, Tryz.ntmps147
    go_wp2_with fail
    refine (specKindValid_any _ _).mono ?_
    rw [hv]
    clear hv
    rintro e w' ⟨rfl, rfl⟩
    go_wp2_with fail
    go_ret
    exact ⟨by rw [H.out]; rfl, rfl⟩
  · rcases (show k = 0 ∨ k = 1 ∨ k = 2 ∨ k = 3 ∨ k = 4 ∨ k = 5 by omega) with rfl | rfl | rfl | rfl | rfl | rfl
    all_goals
      clear hk
      go_enter Tryz.func147, Tryz.ntmps147
      go_wp2_with fail
      refine (specKindValid_any _ _).mono ?_
      rintro e w' ⟨rfl, rfl⟩
      go_wp2_with fail
      go_ret
      exact ⟨rfl, rfl⟩
end Go.Proofs.YtihobnheficpjaaGreatDoor
namespace Go.Proofs.YtihobnheficpjaaGreatDoor
open Go.RowKit

/-- What a kind does, as an interface value. -/
def work (k : Int) : Value :=
  if k = 0 then .iface 172 (.agg #[])
  else if k = 1 then .iface 142 (.agg #[.func (.func 138) #[] #[]])
  else if k = 2 then .iface 142 (.agg #[.func (.func 139) #[] #[]])
  else if k = 3 then .iface 145 (.agg #[.func (.func 140) #[] #[]])
  else if k = 4 then .iface 145 (.agg #[.func (.func 141) #[] #[]])
  else if k = 5 then .iface 145 (.agg #[.func (.func 142) #[] #[]])
  else .nilIface

theorem workOf_any (k : Int) (w : World) :
    Calls Tryz.prog 117 #[.int .i64 k] w fun e w' => e = .returned (work k) ∧ w = w' := by
  by_cases hk : k < 0 ∨ 5 < k
  · have H : Hid (work k = .nilIface) := by
      show work k = .nilIface
      unfold work
      repeat rw [if_neg (by omega)]
    rcases hk with hk | hk
    all_goals
      go_enter Tryz.func117, Tryz.ntmps117
      go_wp2_with fail
      go_ret
      exact ⟨by rw [H.out]; rfl, rfl⟩
  · rcases (show k = 0 ∨ k = 1 ∨ k = 2 ∨ k = 3 ∨ k = 4 ∨ k = 5 by omega) with rfl | rfl | rfl | rfl | rfl | rfl
    all_goals
      clear hk
      go_enter Tryz.func117, Tryz.ntmps117
      go_wp2_with fail
      go_ret
      exact ⟨rfl, rfl⟩
theorem implKindValid_any (k : Int) (w : World) :
    Calls Tryz.prog 166 #[.int .i64 k] w fun e w' => e = .returned (.bool (kindValid k)) ∧ w = w' := by
  by_cases hk : k < 0 ∨ 5 < k
  · have H : Hid (work k = .nilIface) := by
      show work k = .nilIface
      unfold work
      repeat rw [if_neg (by omega)]
    have hv : kindValid k = false := by
      unfold kindValid
      simp only [Bool.and_eq_false_iff, decide_eq_false_iff_not]
      omega
    rw [hv]
    clear hv hk
    go_enter Tryz.func166, Tryz.ntmps166
    go_wp2_with fail
    refine (workOf_any _ _).mono ?_
    rw [H.out]
    rintro e w' ⟨rfl, rfl⟩
    go_wp2_with fail
    go_ret
    exact ⟨rfl, rfl⟩
  · rcases (show k = 0 ∨ k = 1 ∨ k = 2 ∨ k = 3 ∨ k = 4 ∨ k = 5 by omega) with rfl | rfl | rfl | rfl | rfl | rfl
    all_goals
      clear hk
      go_enter Tryz.func166, Tryz.ntmps166
      go_wp2_with fail
      refine (workOf_any _ _).mono ?_
      simp only [work, if_true]
      rintro e w' ⟨rfl, rfl⟩
      go_wp2_with fail
      go_ret
      exact ⟨rfl, rfl⟩
theorem implKindValid_b (k : Int) (w : World) {b : Bool} (hb : kindValid k = b) :
    Calls Tryz.prog 166 #[.int .i64 k] w fun e w' => e = .returned (.bool b) ∧ w = w' := hb ▸ implKindValid_any k w

theorem m_given (w : World) : (method 341 172 (.agg #[]) "loop.example/workplans/impl.needs").run Tryz.prog w = .ok (218, .agg #[]) w := by kernel_rfl
theorem m_pair (f : FuncId) (w : World) : (method 341 142 (.agg #[.func (.func f) #[] #[]]) "loop.example/workplans/impl.needs").run Tryz.prog w = .ok (118, .agg #[.func (.func f) #[] #[]]) w := by kernel_rfl
theorem m_lone (f : FuncId) (w : World) : (method 341 145 (.agg #[.func (.func f) #[] #[]]) "loop.example/workplans/impl.needs").run Tryz.prog w = .ok (119, .agg #[.func (.func f) #[] #[]]) w := by kernel_rfl
theorem givenNeeds_any (w : World) : Calls Tryz.prog 218 #[.agg #[]] w fun e w' => e = .returned (.int .i64 0) ∧ w.grownBy w' none := by
  go_enter Tryz.func218, Tryz.ntmps218
  go_wp2_with fail
  go_ret
  exact ⟨rfl, World.grownBy_alloc _ _ _⟩
theorem pairNeeds_any (f : FuncId) (w : World) : Calls Tryz.prog 118 #[.agg #[.func (.func f) #[] #[]]] w fun e w' => e = .returned (.int .i64 2) ∧ w.grownBy w' none := by
  go_enter Tryz.func118, Tryz.ntmps118
  go_wp2_with fail
  go_ret
  exact ⟨rfl, World.grownBy_alloc _ _ _⟩
theorem loneNeeds_any (f : FuncId) (w : World) : Calls Tryz.prog 119 #[.agg #[.func (.func f) #[] #[]]] w fun e w' => e = .returned (.int .i64 1) ∧ w.grownBy w' none := by
  go_enter Tryz.func119, Tryz.ntmps119
  go_wp2_with fail
  go_ret
  exact ⟨rfl, World.grownBy_alloc _ _ _⟩

set_option maxRecDepth 20000 in
theorem implKindNeeds_any (k : Int) (w : World) :
    Calls Tryz.prog 167 #[.int .i64 k] w fun e w' => e = .returned (.int .i64 (kindNeeds k)) ∧ w.grownBy w' none := by
  by_cases hk : k < 0 ∨ 5 < k
  · have H : Hid (work k = .nilIface) := by
      show work k = .nilIface
      unfold work
      repeat rw [if_neg (by omega)]
    rw [show kindNeeds k = -1 by unfold kindNeeds; rw [if_pos hk]]
    clear hk
    go_enter Tryz.func167, Tryz.ntmps167
    go_wp2_with fail
    refine (workOf_any _ _).mono ?_
    rw [H.out]
    rintro e w' ⟨rfl, rfl⟩
    go_wp2_with fail
    go_ret
    exact ⟨rfl, gb_refl _ _⟩
  · rcases (show k = 0 ∨ k = 1 ∨ k = 2 ∨ k = 3 ∨ k = 4 ∨ k = 5 by omega) with rfl | rfl | rfl | rfl | rfl | rfl
    all_goals
      clear hk
      go_enter Tryz.func167, Tryz.ntmps167
      go_wp2_with fail
      refine (workOf_any _ _).mono ?_
      simp only [work, if_true]
      rintro e w' ⟨rfl, rfl⟩
      have hm1 := m_given
      have hm2 := m_pair
      have hm3 := m_lone
      go_wp2_with (first
        | (go_at_call 218; refine (givenNeeds_any _).mono ?_; rintro e w' ⟨rfl, hg⟩)
        | (go_at_call 118; refine (pairNeeds_any _ _).mono ?_; rintro e w' ⟨rfl, hg⟩)
        | (go_at_call 119; refine (loneNeeds_any _ _).mono ?_; rintro e w' ⟨rfl, hg⟩))
      go_ret
      exact ⟨rfl, by assumption⟩
end Go.Proofs.YtihobnheficpjaaGreatDoor
namespace Go.Proofs.YtihobnheficpjaaGreatDoor
open Go.RowKit

theorem rvValid_any (v : Value) (l : List Int) (w : World) (h : RI w v l) :
    Calls Tryz.prog 173 #[v] w fun e w' => e = .returned (.bool (rowValid l)) ∧ w = w' := by
  obtain ⟨A, n, c, rfl, hc, hn⟩ := h.form'
  have hle := h.le
  rw [← hn] at hle
  have Hn := Lib.hid hn
  clear hn
  go_enter Tryz.func173, Tryz.ntmps173
  by_cases h6 : (6 : Int) < n
  · have Hr : Hid (rowValid l = false) := by
      show rowValid l = false
      unfold rowValid
      rw [← Hn.out]
      simp
      omega
    go_wp2_with fail
    go_ret
    exact ⟨by rw [Hr.out]; rfl, rfl⟩
  · go_wp2_with fail
    go_loop [10] (fun i => ∃ k : Nat, k ≤ n ∧ i = .int .i64 k ∧ (l.take k).all inRow = true) (fun i => n - (intOf i).toNat)
    case atStart => exact ⟨0, Nat.zero_le _, rfl, rfl⟩
    case round =>
      obtain ⟨k, hk, rfl, hall⟩ := hrel
      have Hall := Lib.hid hall
      clear hall
      by_cases hlt : k < n
      · obtain ⟨g, o, x, rfl, hx, hcell⟩ := h.at_ hlt
        have Hx := Lib.hid hx
        clear hx
        by_cases hin : inRow x = true
        · have Hin := Lib.hid hin
          have hb : 0 ≤ x ∧ x < 1009 := by
            simp only [inRow, Bool.and_eq_true, decide_eq_true_eq] at hin
            omega
          clear hin
          obtain ⟨hb1, hb2⟩ := hb
          go_wp2_with fail
          go_round
          case rel => exact ⟨k + 1, by omega, by go_num, by rw [all_snoc _ Hx.out, Hall.out, Hin.out]; rfl⟩
          case measure => simp [intOf]; omega
        · have Hr : Hid (rowValid l = false) := by
            show rowValid l = false
            unfold rowValid
            rw [Bool.and_eq_false_iff]
            left
            rw [List.all_eq_false]
            exact ⟨x, List.mem_of_getElem? Hx.out, hin⟩
          have hb : x < 0 ∨ 1009 ≤ x := by
            simp only [inRow, Bool.and_eq_true, decide_eq_true_eq] at hin
            omega
          clear hin
          rcases hb with hb | hb
          all_goals
            go_wp2_with fail
            go_ret
            exact ⟨by rw [Hr.out]; rfl, rfl⟩
      · have Hr : Hid (rowValid l = true) := by
          show rowValid l = true
          have h1 := Hall.out
          rw [show k = n by omega, Hn.out, List.take_length] at h1
          rw [rowValid, h1, Bool.true_and, ← Hn.out]
          simp
          omega
        go_wp2_with fail
        go_ret
        exact ⟨by rw [Hr.out]; rfl, rfl⟩
theorem implRowValid_any (v : Value) (l : List Int) (w : World) (h : RI w v l) :
    Calls Tryz.prog 168 #[v] w fun e w' => e = .returned (.bool (rowValid l)) ∧ w = w' := by
  obtain ⟨A, n, c, rfl⟩ := h.val
  go_enter Tryz.func168, Tryz.ntmps168
  go_wp2_with fail
  refine (rvValid_any _ l _ h).mono ?_
  rintro e w' ⟨rfl, rfl⟩
  go_wp2_with fail
  go_ret
  exact ⟨rfl, rfl⟩
theorem implRowValid_b (v : Value) (l : List Int) (w : World) (h : RI w v l) {b : Bool} (hb : rowValid l = b) :
    Calls Tryz.prog 168 #[v] w fun e w' => e = .returned (.bool b) ∧ w = w' := hb ▸ implRowValid_any v l w h

set_option maxHeartbeats 400000 in
set_option maxRecDepth 4000 in
theorem nodeFits_any (v : Value) (nd : Node) (at_ : Int) (w : World) (h : NV w v nd) :
    Calls Tryz.prog 135 #[v, .int .i64 at_] w fun e w' => e = .returned (.bool (nodeFits nd at_)) ∧ w.grownBy w' none := by
  obtain ⟨f, r, rfl, hf, hr⟩ := h
  have hfl := hf.le
  obtain ⟨Af, nf, cf, rfl, _, hnf⟩ := hf.form'
  obtain ⟨Ar, nr, cr, rfl, _, hnr⟩ := hr.form'
  rw [← hnf] at hfl
  have Hnf := Lib.hid hnf
  have Hnr := Lib.hid hnr
  clear hnf hnr
  by_cases hkv : kindValid nd.kind = true
  · have Hkv := Lib.hid hkv
    clear hkv
    by_cases hk : (nf : Int) = kindNeeds nd.kind
    · have Hk := Lib.hid hk
      have hb : ((nf : Int) != kindNeeds nd.kind) = false := by simpa using hk
      clear hk
      go_enter Tryz.func135, Tryz.ntmps135
      go_wp2_with fail
      have hB := Blk.new w 94 #[.int .i64 nd.kind, .slice Af nf cf, .slice Ar nr cr]
      have hG := World.grownBy_alloc w (.cells #[.int .i64 nd.kind, .slice Af nf cf, .slice Ar nr cr] 94) none
      generalize w.alloc (.cells #[.int .i64 nd.kind, .slice Af nf cf, .slice Ar nr cr] 94) = wa at hB hG ⊢
      have c0 : wa.cell? ⟨w.heap.size, 0, none⟩ = some (.int .i64 nd.kind) := hB.cell 0
      have c1 : wa.cell? ⟨w.heap.size, 1, none⟩ = some (.slice Af nf cf) := hB.cell 1
      go_region_held3 (fun w' => w'.cell? ⟨w.heap.size, 0, none⟩ = some (.int .i64 nd.kind) ∧ w'.cell? ⟨w.heap.size, 1, none⟩ = some (.slice Af nf cf)) (go_keep)
        (first
          | (go_at_call 166; refine (implKindValid_b _ _ Hkv.out).mono ?_; rintro e w' ⟨rfl, rfl⟩)
          | (go_at_call 167; refine (implKindNeeds_any _ _).mono ?_; rintro e w2 ⟨rfl, hg2⟩; have k0 := hg2.cell (by exact c0) (by simp); have k1 := hg2.cell (by exact c1) (by simp)))
      have hG2 : w.grownBy w2 none := gb_trans (gb_drew hG) hg2
      have hB2 := hB.grown (gb_trans (gb_drew (gb_refl wa none)) hg2) (by simp)
      have hf2 := hf.new hG2
      have hr2 := hr.new hG2
      clear c0 c1 k0 k1 hG hg2 hB hf hr
      have c0 : w2.cell? ⟨w.heap.size, 0, none⟩ = some (.int .i64 nd.kind) := hB2.cell 0
      have c1 : w2.cell? ⟨w.heap.size, 1, none⟩ = some (.slice Af nf cf) := hB2.cell 1
      have c2 : w2.cell? ⟨w.heap.size, 2, none⟩ = some (.slice Ar nr cr) := hB2.cell 2
      go_wp2_with fail
      go_loop [23] (fun i => ∃ k : Nat, k ≤ nf ∧ i = .int .i64 k ∧ (nd.frm.take k).all (fun y => decide (0 ≤ y) && decide (y < at_)) = true) (fun i => nf - (intOf i).toNat)
      case atStart => exact ⟨0, Nat.zero_le _, rfl, rfl⟩
      case round =>
        obtain ⟨k, hk, rfl, hall⟩ := hrel
        have Hall := Lib.hid hall
        clear hall
        by_cases hlt : k < nf
        · obtain ⟨g, o, x, rfl, hx, hcell⟩ := hf2.at_ hlt
          have Hx := Lib.hid hx
          clear hx
          by_cases hin : 0 ≤ x ∧ x < at_
          · have Hin := Lib.hid hin
            obtain ⟨hb1, hb2⟩ := hin
            go_wp2_with fail
            go_round
            case rel => exact ⟨k + 1, by omega, by go_num, by rw [all_snoc _ Hx.out, Hall.out]; simp [Hin.out]⟩
            case measure => simp [intOf]; omega
          · have Hr : Hid (nodeFits nd at_ = false) := by
              show nodeFits nd at_ = false
              have : nd.frm.all (fun y => decide (0 ≤ y) && decide (y < at_)) = false := by
                rw [List.all_eq_false]
                exact ⟨x, List.mem_of_getElem? Hx.out, by simpa using hin⟩
              unfold nodeFits
              rw [this]
              simp
            have hb : x < 0 ∨ (0 ≤ x ∧ at_ ≤ x) := by omega
            clear hin
            rcases hb with hb | ⟨hb, hb'⟩
            all_goals
              go_wp2_with fail
              go_ret
              exact ⟨by rw [Hr.out]; rfl, hG2⟩
        · have Hr : Hid (nodeFits nd at_ = if nd.kind = 0 then rowValid nd.row else decide (nr = 0)) := by
            show nodeFits nd at_ = if nd.kind = 0 then rowValid nd.row else decide (nr = 0)
            have h1 := Hall.out
            rw [show k = nf by omega, Hnf.out, List.take_length] at h1
            unfold nodeFits
            rw [h1, Hkv.out, ← Hnf.out, decide_eq_true Hk.out, Hnr.out]
            simp
          by_cases hk0 : nd.kind = 0
          · have Hr' : Hid (nodeFits nd at_ = rowValid nd.row) := by
              show nodeFits nd at_ = rowValid nd.row
              rw [Hr.out, if_pos hk0]
            have hb0 : (nd.kind == 0) = true := by simpa using hk0
            clear hk0 Hr
            go_wp2_with fail
            refine (implRowValid_any _ nd.row _ hr2).mono ?_
            rintro e w' ⟨rfl, rfl⟩
            go_wp2_with fail
            go_ret
            exact ⟨by rw [Hr'.out]; rfl, hG2⟩
          · have Hr' : Hid (nodeFits nd at_ = ((nr : Int) == 0)) := by
              show nodeFits nd at_ = ((nr : Int) == 0)
              rw [Hr.out, if_neg hk0, Bool.eq_iff_iff]
              simp
            have hb0 : (nd.kind == 0) = false := by simpa using hk0
            clear hk0 Hr
            go_wp2_with fail
            go_ret
            exact ⟨by rw [Hr'.out]; rfl, hG2⟩
    · have hb : ((nf : Int) != kindNeeds nd.kind) = true := by simpa using hk
      have Hr : Hid (nodeFits nd at_ = false) := by
        show nodeFits nd at_ = false
        unfold nodeFits
        rw [← Hnf.out, decide_eq_false hk]
        simp
      clear hk
      go_enter Tryz.func135, Tryz.ntmps135
      go_wp2_with fail
      have hB := Blk.new w 94 #[.int .i64 nd.kind, .slice Af nf cf, .slice Ar nr cr]
      have hG := World.grownBy_alloc w (.cells #[.int .i64 nd.kind, .slice Af nf cf, .slice Ar nr cr] 94) none
      generalize w.alloc (.cells #[.int .i64 nd.kind, .slice Af nf cf, .slice Ar nr cr] 94) = wa at hB hG ⊢
      have c0 : wa.cell? ⟨w.heap.size, 0, none⟩ = some (.int .i64 nd.kind) := hB.cell 0
      have c1 : wa.cell? ⟨w.heap.size, 1, none⟩ = some (.slice Af nf cf) := hB.cell 1
      go_region_held3 (fun w' => w'.cell? ⟨w.heap.size, 0, none⟩ = some (.int .i64 nd.kind) ∧ w'.cell? ⟨w.heap.size, 1, none⟩ = some (.slice Af nf cf)) (go_keep)
        (first
          | (go_at_call 166; refine (implKindValid_b _ _ Hkv.out).mono ?_; rintro e w' ⟨rfl, rfl⟩)
          | (go_at_call 167; refine (implKindNeeds_any _ _).mono ?_; rintro e w2 ⟨rfl, hg2⟩; have k0 := hg2.cell (by exact c0) (by simp); have k1 := hg2.cell (by exact c1) (by simp)))
      have hG2 : w.grownBy w2 none := gb_trans (gb_drew hG) hg2
      go_wp2_with fail
      go_ret
      exact ⟨by rw [Hr.out]; rfl, hG2⟩
  · have hkv' : kindValid nd.kind = false := by simpa using hkv
    have Hr : Hid (nodeFits nd at_ = false) := by
      show nodeFits nd at_ = false
      unfold nodeFits
      rw [hkv']
      simp
    have Hkv := Lib.hid hkv'
    clear hkv hkv'
    go_enter Tryz.func135, Tryz.ntmps135
    go_wp2_with fail
    go_quiet ((go_at_call 166; exact quiet_l (implKindValid_b _ _ Hkv.out)))
    go_wp2_with fail
    go_ret
    exact ⟨by rw [Hr.out]; rfl, gb_drewN (World.grownBy_alloc _ _ _) _⟩
theorem nodeFits_b (v : Value) (nd : Node) (at_ : Int) (w : World) (h : NV w v nd) {b : Bool} (hb : nodeFits nd at_ = b) :
    Calls Tryz.prog 135 #[v, .int .i64 at_] w fun e w' => e = .returned (.bool b) ∧ w.grownBy w' none := hb ▸ nodeFits_any v nd at_ w h
end Go.Proofs.YtihobnheficpjaaGreatDoor
