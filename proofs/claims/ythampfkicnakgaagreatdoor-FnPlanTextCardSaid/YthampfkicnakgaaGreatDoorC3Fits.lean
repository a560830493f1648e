/- Walks: impl.RowValid, impl.nodeFits. -/
import Derived.Test.YthampfkicnakgaaGreatDoorA3Mem
import Derived.Test.YthampfkicnakgaaGreatDoorC2Kind
import Derived.Deep.RegionHeld3
import Derived.Deep.DeepCutAuto
namespace Go.Proofs.YthampfkicnakgaaGreatDoor
open Go.RowKit

theorem rvValid_any (v : Value) (l : List Int) (w : World) (h : RI w v l) :
    Calls Tryz.prog 31 #[v] w fun e w' => e = .returned (.bool (rowValid l)) ∧ w = w' := by
  obtain ⟨A, n, c, rfl, hc, hn⟩ := h.form'
  have hle := h.le
  rw [← hn] at hle
  have Hn := Lib.hid hn
  clear hn
  go_enter Tryz.func31, Tryz.ntmps31
  by_cases h6 : (6 : Int) < n
  · have Hr : Hid (rowValid l = false) := by
      show rowValid l = false
      unfold rowValid
      rw [← Hn.out]
      simp
      omega
    go_wp2_with fail
    go_ret
    exact ⟨by rw [Hr.out]; rfl, rfl⟩
  · go_wp2_with fail
    go_loop [10] (fun i => ∃ k : Nat, k ≤ n ∧ i = .int .i64 k ∧ (l.take k).all inRow = true) (fun i => n - (intOf i).toNat)
    case atStart => exact ⟨0, Nat.zero_le _, rfl, rfl⟩
    case round =>
      obtain ⟨k, hk, rfl, hall⟩ := hrel
      have Hall := Lib.hid hall
      clear hall
      by_cases hlt : k < n
      · obtain ⟨g, o, x, rfl, hx, hcell⟩ := h.at_ hlt
        have Hx := Lib.hid hx
        clear hx
        by_cases hin : inRow x = true
        · have Hin := Lib.hid hin
          have hb : 0 ≤ x ∧ x < 1009 := by
            simp only [inRow, Bool.and_eq_true, decide_eq_true_eq] at hin
            omega
          clear hin
          obtain ⟨hb1, hb2⟩ := hb
          go_wp2_with fail
          go_round
          case rel => exact ⟨k + 1, by omega, by go_num, by rw [all_snoc _ Hx.out, Hall.out, Hin.out]; rfl⟩
          case measure => simp [intOf]; omega
        · have Hr : Hid (rowValid l = false) := by
            show rowValid l = false
            unfold rowValid
            rw [Bool.and_eq_false_iff]
            left
            rw [List.all_eq_false]
            exact ⟨x, List.mem_of_getElem? Hx.out, hin⟩
          have hb : x < 0 ∨ 1009 ≤ x := by
            simp only [inRow, Bool.and_eq_true, decide_eq_true_eq] at hin
            omega
          clear hin
          rcases hb with hb | hb
          all_goals
            go_wp2_with fail
            go_ret
            exact ⟨by rw [Hr.out]; rfl, rfl⟩
      · have Hr : Hid (rowValid l = true) := by
          show rowValid l = true
          have h1 := Hall.out
          rw [show k = n by omega, Hn.out, List.take_length] at h1
          rw [rowValid, h1, Bool.true_and, ← Hn.out]
          simp
          omega
        go_wp2_with fail
        go_ret
        exact ⟨by rw [Hr.out]; rfl, rfl⟩
theorem implRowValid_any (v : Value) (l : List Int) (w : World) (h : RI w v l) :
    Calls Tryz.prog 11 #[v] w fun e w' => e = .returned (.bool (rowValid l)) ∧ w = w' := by
  obtain ⟨A, n, c, rfl⟩ := h.val
  go_enter Tryz.func11, Tryz.ntmps11
  go_wp2_with fail
  refine (rvValid_any _ l _ h).mono ?_
  rintro e w' ⟨rfl, rfl⟩
  go_wp2_with fail
  go_ret
  exact ⟨rfl, rfl⟩
theorem implRowValid_b (v : Value) (l : List Int) (w : World) (h : RI w v l) {b : Bool} (hb : rowValid l = b) :
    Calls Tryz.prog 11 #[v] w fun e w' => e = .returned (.bool b) ∧ w = w' := hb ▸ implRowValid_any v l w h

set_option maxHeartbeats 400000 in
set_option maxRecDepth 4000 in
theorem nodeFits_any (v : Value) (nd : Node) (at_ : Int) (w : World) (h : NV w v nd) :
    Calls Tryz.prog 65 #[v, .int .i64 at_] w fun e w' => e = .returned (.bool (nodeFits nd at_)) ∧ w.grownBy w' none := by
  obtain ⟨f, r, rfl, hf, hr⟩ := h
  have hfl := hf.le
  obtain ⟨Af, nf, cf, rfl, _, hnf⟩ := hf.form'
  obtain ⟨Ar, nr, cr, rfl, _, hnr⟩ := hr.form'
  rw [← hnf] at hfl
  have Hnf := Lib.hid hnf
  have Hnr := Lib.hid hnr
  clear hnf hnr
  by_cases hkv : kindValid nd.kind = true
  · have Hkv := Lib.hid hkv
    clear hkv
    by_cases hk : (nf : Int) = kindNeeds nd.kind
    · have Hk := Lib.hid hk
      have hb : ((nf : Int) != kindNeeds nd.kind) = false := by simpa using hk
      clear hk
      go_enter Tryz.func65, Tryz.ntmps65
      go_wp2_with fail
      have hB := Blk.new w 66 #[.int .i64 nd.kind, .slice Af nf cf, .slice Ar nr cr]
      have hG := World.grownBy_alloc w (.cells #[.int .i64 nd.kind, .slice Af nf cf, .slice Ar nr cr] 66) none
      generalize w.alloc (.cells #[.int .i64 nd.kind, .slice Af nf cf, .slice Ar nr cr] 66) = wa at hB hG ⊢
      have c0 : wa.cell? ⟨w.heap.size, 0, none⟩ = some (.int .i64 nd.kind) := hB.cell 0
      have c1 : wa.cell? ⟨w.heap.size, 1, none⟩ = some (.slice Af nf cf) := hB.cell 1
      go_region_held3 (fun w' => w'.cell? ⟨w.heap.size, 0, none⟩ = some (.int .i64 nd.kind) ∧ w'.cell? ⟨w.heap.size, 1, none⟩ = some (.slice Af nf cf)) (go_keep)
        (first
          | (go_at_call 87; refine (implKindValid_b _ _ Hkv.out).mono ?_; rintro e w' ⟨rfl, rfl⟩)
          | (go_at_call 88; refine (implKindNeeds_any _ _).mono ?_; rintro e w2 ⟨rfl, hg2⟩; have k0 := hg2.cell (by exact c0) (by simp); have k1 := hg2.cell (by exact c1) (by simp)))
      have hG2 : w.grownBy w2 none := gb_trans (gb_drew hG) hg2
      have hB2 := hB.grown (gb_trans (gb_drew (gb_refl wa none)) hg2) (by simp)
      have hf2 := hf.new hG2
      have hr2 := hr.new hG2
      clear c0 c1 k0 k1 hG hg2 hB hf hr
      have c0 : w2.cell? ⟨w.heap.size, 0, none⟩ = some (.int .i64 nd.kind) := hB2.cell 0
      have c1 : w2.cell? ⟨w.heap.size, 1, none⟩ = some (.slice Af nf cf) := hB2.cell 1
      have c2 : w2.cell? ⟨w.heap.size, 2, none⟩ = some (.slice Ar nr cr) := hB2.cell 2
      go_wp2_with fail
      go_loop [23] (fun i => ∃ k : Nat, k ≤ nf ∧ i = .int .i64 k ∧ (nd.frm.take k).all (fun y => decide (0 ≤ y) && decide (y < at_)) = true) (fun i => nf - (intOf i).toNat)
      case atStart => exact ⟨0, Nat.zero_le _, rfl, rfl⟩
      case round =>
        obtain ⟨k, hk, rfl, hall⟩ := hrel
        have Hall := Lib.hid hall
        clear hall
        by_cases hlt : k < nf
        · obtain ⟨g, o, x, rfl, hx, hcell⟩ := hf2.at_ hlt
          have Hx := Lib.hid hx
          clear hx
          by_cases hin : 0 ≤ x ∧ x < at_
          · have Hin := Lib.hid hin
            obtain ⟨hb1, hb2⟩ := hin
            go_wp2_with fail
            go_round
            case rel => exact ⟨k + 1, by omega, by go_num, by rw [all_snoc _ Hx.out, Hall.out]; simp [Hin.out]⟩
            case measure => simp [intOf]; omega
          · have Hr : Hid (nodeFits nd at_ = false) := by
              show nodeFits nd at_ = false
              have : nd.frm.all (fun y => decide (0 ≤ y) && decide (y < at_)) = false := by
                rw [List.all_eq_false]
                exact ⟨x, List.mem_of_getElem? Hx.out, by simpa using hin⟩
              unfold nodeFits
              rw [this]
              simp
            have hb : x < 0 ∨ (0 ≤ x ∧ at_ ≤ x) := by omega
            clear hin
            rcases hb with hb | ⟨hb, hb'⟩
            all_goals
              go_wp2_with fail
              go_ret
              exact ⟨by rw [Hr.out]; rfl, hG2⟩
        · have Hr : Hid (nodeFits nd at_ = if nd.kind = 0 then rowValid nd.row else decide (nr = 0)) := by
            show nodeFits nd at_ = if nd.kind = 0 then rowValid nd.row else decide (nr = 0)
            have h1 := Hall.out
            rw [show k = nf by omega, Hnf.out, List.take_length] at h1
            unfold nodeFits
            rw [h1, Hkv.out, ← Hnf.out, decide_eq_true Hk.out, Hnr.out]
            simp
          by_cases hk0 : nd.kind = 0
          · have Hr' : Hid (nodeFits nd at_ = rowValid nd.row) := by
              show nodeFits nd at_ = rowValid nd.row
              rw [Hr.out, if_pos hk0]
            have hb0 : (nd.kind == 0) = true := by simpa using hk0
            clear hk0 Hr
            go_wp2_with fail
            refine (implRowValid_any _ nd.row _ hr2).mono ?_
            rintro e w' ⟨rfl, rfl⟩
            go_wp2_with fail
            go_ret
            exact ⟨by rw [Hr'.out]; rfl, hG2⟩
          · have Hr' : Hid (nodeFits nd at_ = ((nr : Int) == 0)) := by
              show nodeFits nd at_ = ((nr : Int) == 0)
              rw [Hr.out, if_neg hk0, Bool.eq_iff_iff]
              simp
            have hb0 : (nd.kind == 0) = false := by simpa using hk0
            clear hk0 Hr
            go_wp2_with fail
            go_ret
            exact ⟨by rw [Hr'.out]; rfl, hG2⟩
    · have hb : ((nf : Int) != kindNeeds nd.kind) = true := by simpa using hk
      have Hr : Hid (nodeFits nd at_ = false) := by
        show nodeFits nd at_ = false
        unfold nodeFits
        rw [← Hnf.out, decide_eq_false hk]
        simp
      clear hk
      go_enter Tryz.func65, Tryz.ntmps65
      go_wp2_with fail
      have hB := Blk.new w 66 #[.int .i64 nd.kind, .slice Af nf cf, .slice Ar nr cr]
      have hG := World.grownBy_alloc w (.cells #[.int .i64 nd.kind, .slice Af nf cf, .slice Ar nr cr] 66) none
      generalize w.alloc (.cells #[.int .i64 nd.kind, .slice Af nf cf, .slice Ar nr cr] 66) = wa at hB hG ⊢
      have c0 : wa.cell? ⟨w.heap.size, 0, none⟩ = some (.int .i64 nd.kind) := hB.cell 0
      have c1 : wa.cell? ⟨w.heap.size, 1, none⟩ = some (.slice Af nf cf) := hB.cell 1
      go_region_held3 (fun w' => w'.cell? ⟨w.heap.size, 0, none⟩ = some (.int .i64 nd.kind) ∧ w'.cell? ⟨w.heap.size, 1, none⟩ = some (.slice Af nf cf)) (go_keep)
        (first
          | (go_at_call 87; refine (implKindValid_b _ _ Hkv.out).mono ?_; rintro e w' ⟨rfl, rfl⟩)
          | (go_at_call 88; refine (implKindNeeds_any _ _).mono ?_; rintro e w2 ⟨rfl, hg2⟩; have k0 := hg2.cell (by exact c0) (by simp); have k1 := hg2.cell (by exact c1) (by simp)))
      have hG2 : w.grownBy w2 none := gb_trans (gb_drew hG) hg2
      go_wp2_with fail
      go_ret
      exact ⟨by rw [Hr.out]; rfl, hG2⟩
  · have hkv' : kindValid nd.kind = false := by simpa using hkv
    have Hr : Hid (nodeFits nd at_ = false) := by
      show nodeFits nd at_ = false
      unfold nodeFits
      rw [hkv']
      simp
    have Hkv := Lib.hid hkv'
    clear hkv hkv'
    go_enter Tryz.func65, Tryz.ntmps65
    go_wp2_with fail
    go_quiet ((go_at_call 87; exact quiet_l (implKindValid_b _ _ Hkv.out)))
    go_wp2_with fail
    go_ret
    exact ⟨by rw [Hr.out]; rfl, gb_drewN (World.grownBy_alloc _ _ _) _⟩
theorem nodeFits_b (v : Value) (nd : Node) (at_ : Int) (w : World) (h : NV w v nd) {b : Bool} (hb : nodeFits nd at_ = b) :
    Calls Tryz.prog 65 #[v, .int .i64 at_] w fun e w' => e = .returned (.bool b) ∧ w.grownBy w' none := hb ▸ nodeFits_any v nd at_ w h
end Go.Proofs.YthampfkicnakgaaGreatDoor
