/- Walks: spec.l4Step, spec.l4Values. · Walks: spec.ReadyOf, spec.CrewValid. · A region that draws its order, whose operations only make memory: each operation is shown once, whatever stands before it; the rest follows in one order. Conditions: none. -/
import Derived.Test.YtihobnheficpjaaGreatM03
import Derived.Test.YtihobnheficpjaaGreatM05
import Derived.Test.YtihobnheficpjaaGreatM16
import Derived.Test.YtihobnheficpjaaGreatM06
import Derived.Test.YtihobnheficpjaaGreatM17
import Derived.Deep.LoopGhost
import Derived.Test.YtihobnheficpjaaGreatM18
import Derived.Test.YtihobnheficpjaaGreatM09
import Derived.Orders
namespace Go.Proofs.YtihobnheficpjaaGreat
open Go.RowKit

def ValOut (w : World) (l : List Int) (e : Ending) (w' : World) : Prop := ∃ v, e = .returned v ∧ OwnI w' w.heap.size v l ∧ w.grownBy w' none
set_option maxHeartbeats 800000 in
set_option maxRecDepth 20000 in
theorem l4Step_any (v rv : Value) (x : Node) (rows : List (List Int)) (w : World) (h : NV w v x) (hr : RL w rv rows) (hf : x.frm.length ≤ 2) (hin : x.kind ≠ 0 → ∀ y ∈ x.frm, 0 ≤ y ∧ y < rows.length) (_hrl : rows.length ≤ 1000) (hxr : x.row.length ≤ 1000) :
    Calls Tryz.prog 63 #[v, rv] w (ValOut w (stepRow x rows)) := by
  obtain ⟨f, r, rfl, hff, hrr⟩ := h
  obtain ⟨Af, nf, cf, rfl, _, hnf⟩ := hff.form'
  obtain ⟨Ar, nr, cr, rfl⟩ := hrr.val
  obtain ⟨A, n, c, rfl, hnc, hn, hn9⟩ := hr.form'
  have hB := Blk.new w 52 #[.int .i64 x.kind, .slice Af nf cf, .slice Ar nr cr]
  have hga := World.grownBy_alloc w (.cells #[.int .i64 x.kind, .slice Af nf cf, .slice Ar nr cr] 52) none
  rw [← hnf] at hf
  have Hnf := Lib.hid hnf
  have Hn := Lib.hid hn
  have Hin := Lib.hid hin
  clear hnf hn hin hn9
  by_cases hk : x.kind = 0
  · have hT : Hid (stepRow x rows = x.row) := by show _ = _; unfold stepRow; rw [if_pos hk]
    have hb : (x.kind == 0) = true := by simpa using hk
    clear hk
    go_enter Tryz.func63, Tryz.ntmps63
    go_upto_region 1 with fail
    generalize w.alloc (.cells #[.int .i64 x.kind, .slice Af nf cf, .slice Ar nr cr] 52) = wa at hB hga ⊢
    have c0 : wa.cell? ⟨w.heap.size, 0, none⟩ = some (.int .i64 x.kind) := hB.cell 0
    have c2 := ((hB.alloc (.cells #[] 3)).cell 2)
    have hq : OwnI (wa.alloc (.cells #[] 3)) wa.heap.size (.slice (some ⟨wa.heap.size, 0, none⟩) 0 0) [] := OwnI.empty wa (Nat.le_refl _)
    have hr4 := (hrr.new hga).alloc (.cells #[] 3)
    have hb4 : wa.heap.size ≤ (wa.alloc (.cells #[] 3)).heap.size := by rw [World.size_alloc]; omega
    have hg4 : w.grownBy (wa.alloc (.cells #[] 3)) none := gb_alloc hga _
    have hs := hga.size
    go_wp2_with (at_builtin; go_must (refine wp_extend_ints (.tmp 12) (.tmp 14) 25 Tryz.underlying25 rfl rfl hq hr4 (by simp; omega) hb4 rfl rfl ?_))
    intro v5 w5 hq5 hg5
    obtain ⟨A5, n5, c5, rfl⟩ := hq5.ri.val
    have hg45 : w.grownBy w5 none := gb_new hg4 hg5 (fun g e => by cases e; exact .inl hs)
    go_wp2_with fail
    go_ret
    exact ⟨_, rfl, by rw [hT.out]; simpa using hq5.lower hs, hg45⟩
  · have hT : Hid (stepRow x rows = (kindRun x.kind (x.frm.map fun i => rows.getD i.toNat [])).getD []) := by show _ = _; unfold stepRow; rw [if_neg hk]
    have hb : (x.kind == 0) = false := by simpa using hk
    have Hin2 := Lib.hid (Hin.out hk)
    clear hk
    go_enter Tryz.func63, Tryz.ntmps63
    go_upto_region 1 with fail
    generalize w.alloc (.cells #[.int .i64 x.kind, .slice Af nf cf, .slice Ar nr cr] 52) = wa at hB hga ⊢
    have hown0 : OwnL (wa.alloc (.cells #[] 25)) wa.heap.size (.slice (some ⟨wa.heap.size, 0, none⟩) 0 0) [] := OwnL.empty wa (Nat.le_refl _)
    have hs := hga.size
    have c0 : wa.cell? ⟨w.heap.size, 0, none⟩ = some (.int .i64 x.kind) := hB.cell 0
    go_wp2_with fail
    clear c0
    go_loopg [5, 6] (nf + 1) (fun mm out i wr => ∃ k : Nat, k ≤ nf ∧ mm = nf + 1 - k ∧ i = .int .i64 k ∧ OwnL wr wa.heap.size out ((x.frm.map fun i => rows.getD i.toNat []).take k) ∧ wa.grownBy wr none)
    case atStart => exact ⟨0, Nat.zero_le _, rfl, rfl, hown0, gb_alloc (gb_refl wa none) _⟩
    case round =>
      clear hown0
      obtain ⟨k, hk, rfl, rfl, hown, hg⟩ := hrel
      have c0 : wr.cell? ⟨w.heap.size, 0, none⟩ = some (.int .i64 x.kind) := (hB.grown hg (by simp)).cell 0
      have c1 : wr.cell? ⟨w.heap.size, 1, none⟩ = some (.slice Af nf cf) := (hB.grown hg (by simp)).cell 1
      by_cases hlt : k < nf
      · obtain ⟨g, o, y, rfl, hy, hcell⟩ := ((hff.new hga).new hg).at_ hlt
        obtain ⟨hy0, hy1⟩ := Hin2.out y (List.mem_of_getElem? hy)
        obtain ⟨j, rfl⟩ := Int.eq_ofNat_of_zero_le hy0
        have hj : j < n := by have := Hn.out; omega
        obtain ⟨g2, o2, l, B, m, e2, rfl, hl, hcl, hrl2, -, -, -⟩ := ((hr.new hga).new hg).at_ hj
        have Hy : Hid ((x.frm.map fun i => rows.getD i.toNat []).take (k + 1) = (x.frm.map fun i => rows.getD i.toNat []).take k ++ [l]) := by
          show _ = _
          obtain ⟨hy2, hy3⟩ := List.getElem?_eq_some_iff.1 hy
          rw [List.take_succ_eq_append_getElem (by rw [List.length_map]; exact hy2), List.getElem_map, hy3]
          have : rows.getD ((j : Nat) : Int).toNat [] = l := by
            rw [List.getD_eq_getElem?_getD]
            show rows[j]?.getD [] = l
            rw [hl]
            rfl
          rw [this]
        have hll : ((x.frm.map fun i => rows.getD i.toNat []).take k).length ≤ 1000000000 := by rw [List.length_take]; omega
        have hjn : (j : Int) < (n : Int) := by omega
        have hsz9 := hg.size
        clear hy hl hy1
        go_wp2_with (at_builtin; go_must (refine wp_push_list (.tmp 24) (.tmp 33) rfl rfl hown hrl2 hll hsz9 rfl rfl ?_))
        intro v2 w2 hown2 hg2
        have hg3 := hown.gb hg hg2 (Nat.le_refl _)
        go_wp2_with fail
        go_roundg (nf + 1 - (k + 1))
        case measure => omega
        case rel => exact ⟨k + 1, by omega, rfl, by go_num, by rw [Hy.out]; exact hown2, hg3⟩
      · obtain rfl : k = nf := by omega
        rw [List.take_of_length_le (by rw [List.length_map, ← Hnf.out]; exact Nat.le_refl _)] at hown
        obtain ⟨A2, n2, c2, rfl⟩ := hown.rl.val
        go_wp2_with fail
        refine (specKindRun_any x.kind _ _ wr hown.rl).mono ?_
        rintro e w3 ⟨v3, rfl, ho3, hg3⟩
        obtain ⟨A3, n3, c3, rfl⟩ := ho3.ri.val
        go_wp2_with fail
        go_ret
        exact ⟨_, rfl, by rw [hT.out]; exact ho3.lower (gb_trans hga hg).size, gb_trans (gb_trans hga hg) hg3⟩
def ValsOut (w : World) (ll : List (List Int)) (e : Ending) (w' : World) : Prop := ∃ v, e = .returned v ∧ OwnL w' w.heap.size v ll ∧ w.grownBy w' none
set_option maxHeartbeats 800000 in
set_option maxRecDepth 20000 in
theorem l4Values_any (v : Value) (plan : List Node) (w : World) (h : RN w v plan) (hv : planValid plan = true) : Calls Tryz.prog 41 #[v] w (ValsOut w (values plan)) := by
  obtain ⟨A, n, c, rfl, hnc, hn, hn9⟩ := h.form'
  have hl10 := planValid_len hv
  have hn10 : n ≤ 10 := by omega
  have Hv := Lib.hid hv
  have Hn := Lib.hid hn
  have h0 : OwnL (w.alloc (.cells #[] 25)) w.heap.size (.slice (some ⟨w.heap.size, 0, none⟩) 0 0) [] := OwnL.empty w (Nat.le_refl _)
  clear hv hn hn9 hl10
  go_enter Tryz.func41, Tryz.ntmps41
  go_wp2_with fail
  go_loopg [3, 4] (n + 1) (fun mm out i wr => ∃ k : Nat, k ≤ n ∧ mm = n + 1 - k ∧ i = .int .i64 k ∧ OwnL wr w.heap.size out (valuesTo plan k) ∧ w.grownBy wr none)
  case atStart => exact ⟨0, Nat.zero_le _, rfl, rfl, h0, gb_alloc (gb_refl w none) _⟩
  case round =>
    clear h0
    obtain ⟨k, hk, rfl, rfl, hown, hg⟩ := hrel
    by_cases hlt : k < n
    · obtain ⟨g, o, nd, f, r, rfl, hx, c0, c1, c2, hf, hr⟩ := (h.new hg).at_ hlt
      obtain ⟨A2, n2, c2', rfl⟩ := hown.rl.val
      obtain ⟨hfit, hf2, -, -⟩ := planValid_node Hv.out hx
      have Hx := Lib.hid hx
      have Hs : Hid (valuesTo plan (k + 1) = valuesTo plan k ++ [stepRow nd (valuesTo plan k)]) := valuesTo_succ hx
      have Hmem : Hid (nd.kind ≠ 0 → ∀ y ∈ nd.frm, 0 ≤ y ∧ y < (valuesTo plan k).length) := fun _ y hy => by
        rw [valuesTo_len]
        exact nodeFits_mem hfit hy
      have hrow : nd.row.length ≤ 1000 := by
        by_cases hk0 : nd.kind = 0
        · have := rowValid_len ((fits_kind hfit).2.2.2 hk0)
          omega
        · have e : nd.row = [] := by
            unfold nodeFits at hfit
            simp only [Bool.and_eq_true] at hfit
            have h4 := hfit.2
            rw [if_neg hk0] at h4
            exact List.eq_nil_of_length_eq_zero (by simpa using h4)
          rw [e]
          simp
      have hvl : (valuesTo plan k).length ≤ 1000 := by rw [valuesTo_len]; omega
      have hvl2 : (valuesTo plan k).length ≤ 1000000000 := by omega
      have hsz9 := hg.size
      clear hx hfit
      go_wp2_with fail
      refine (l4Step_any _ _ nd (valuesTo plan k) wr ⟨f, r, rfl, hf, hr⟩ hown.rl hf2 Hmem.out hvl hrow).mono ?_
      rintro e w2 ⟨v2, rfl, hv2o, hg2⟩
      have hv2 := hv2o.ri
      have hown2 := hown.new hg2
      have hg3 := gb_trans hg hg2
      have hsz8 := hg3.size
      obtain ⟨A3, n3, c3, rfl⟩ := hv2.val
      have hvr := hv2
      clear hown hg hg2
      go_wp2_with (at_builtin; go_must (refine wp_push_list (.tmp 12) (.tmp 19) rfl rfl hown2 hvr hvl2 hsz8 rfl rfl ?_))
      intro v4 w4 hown4 hg4
      have hg5 := hown2.gb hg3 hg4 (Nat.le_refl _)
      go_wp2_with fail
      go_roundg (n + 1 - (k + 1))
      case measure => omega
      case rel => exact ⟨k + 1, by omega, rfl, by go_num, by rw [Hs.out]; exact hown4, hg5⟩
    · obtain rfl : k = n := by omega
      have e : valuesTo plan k = values plan := by unfold values; rw [Hn.out]
      rw [e] at hown
      obtain ⟨A2, n2, c2, rfl⟩ := hown.rl.val
      go_wp2_with fail
      go_ret
      exact ⟨_, rfl, hown, hg⟩
end Go.Proofs.YtihobnheficpjaaGreat
namespace Go.Proofs.YtihobnheficpjaaGreat
open Go.RowKit

set_option maxHeartbeats 800000 in
set_option maxRecDepth 20000 in
theorem specReadyOf_any (v dv : Value) (plan : List Node) (done : List Int) (w : World) (h : RN w v plan) (hd : RI w dv done) (hv : planValid plan = true) :
    Calls Tryz.prog 39 #[v, dv] w (IntsOut w (readyOf plan done)) := by
  obtain ⟨A, n, c, rfl, -, hn, -⟩ := h.form'
  have hn10 : n ≤ 10 := by have := planValid_len hv; omega
  have Hn := Lib.hid hn
  have Hv := Lib.hid hv
  obtain ⟨Ad, m, cd, rfl⟩ := hd.val
  have h0 : OwnI (w.alloc (.cells #[] 3)) w.heap.size (.slice (some ⟨w.heap.size, 0, none⟩) 0 0) [] := OwnI.empty w (Nat.le_refl _)
  clear hn hv
  go_enter Tryz.func39, Tryz.ntmps39
  go_wp2_with fail
  go_loopg [5, 6] (n + 1) (fun mm out i wr => ∃ k : Nat, k ≤ n ∧ mm = n + 1 - k ∧ i = .int .i64 k ∧ OwnI wr w.heap.size out (readyTo plan done k) ∧ w.grownBy wr none)
  case atStart => exact ⟨0, Nat.zero_le _, rfl, rfl, h0, gb_alloc (gb_refl w none) _⟩
  case round =>
    clear h0
    obtain ⟨k, hk, rfl, rfl, hown, hg⟩ := hrel
    by_cases hlt : k < n
    · obtain ⟨g, o, nd, f, r, rfl, hx, c0, c1, c2, hf, hr⟩ := (h.new hg).at_ hlt
      obtain ⟨Af, nf, cf, rfl⟩ := hf.val
      have hpl : plan.length ≤ 1000000000 := by have := Hn.out; omega
      have hs := readyTo_succ done hx
      have hol := readyTo_len plan done k
      clear hx c0 c2 hr
      by_cases hD : (k : Int) ∈ done
      · have HD : Hid (decide ((k : Int) ∈ done) = true) := decide_eq_true hD
        have Hs : Hid (readyTo plan done (k + 1) = readyTo plan done k) := by
          show _ = _
          rw [hs, if_neg (by unfold readyNode; simp [hD])]
        obtain ⟨A2, n2, c2, rfl⟩ := hown.ri.val
        clear hD hs
        go_wp2_with fail
        refine (specPlanValid_b _ plan _ (h.new hg) hpl Hv.out).mono ?_
        rintro e w1 ⟨rfl, hg1⟩
        have hd1 := (hd.new hg).new hg1
        go_wp2_with fail
        refine (l3Has_b _ _ _ _ hd1 HD.out).mono ?_
        rintro e w2 ⟨rfl, rfl⟩
        go_wp2_with fail
        go_roundg (n + 1 - (k + 1))
        case measure => omega
        case rel => exact ⟨k + 1, by omega, rfl, by go_num, by rw [Hs.out]; exact hown.new hg1, gb_trans hg hg1⟩
      · have HD : Hid (decide ((k : Int) ∈ done) = false) := decide_eq_false hD
        by_cases ha : nd.frm.all (fun x => decide (x ∈ done)) = true
        · have Ha := Lib.hid ha
          have Hs : Hid (readyTo plan done (k + 1) = readyTo plan done k ++ [(k : Int)]) := by
            show _ = _
            rw [hs, if_pos (by unfold readyNode; simp only [decide_eq_false hD, ha]; rfl)]
          obtain ⟨A2, n2, c2, rfl⟩ := hown.ri.val
          clear hD hs ha
          go_wp2_with fail
          refine (specPlanValid_b _ plan _ (h.new hg) hpl Hv.out).mono ?_
          rintro e w1 ⟨rfl, hg1⟩
          have hd1 := (hd.new hg).new hg1
          have hf1 := hf.new hg1
          have c1' : w1.cell? ⟨g, o + k * 3 + 1, none⟩ = some (.slice Af nf cf) := by
            rw [← c1]
            exact gb_cell hg1 (cell_lt c1) (by simp)
          have hown1 := hown.new hg1
          have hg2 := gb_trans hg hg1
          go_wp2_with fail
          refine (l3Has_b _ _ _ _ hd1 HD.out).mono ?_
          rintro e w2 ⟨rfl, rfl⟩
          go_wp2_with fail
          refine (l5All_b _ _ _ nd.frm _ hd1 hf1 Ha.out).mono ?_
          rintro e w2 ⟨rfl, rfl⟩
          go_wp2_with (at_builtin; go_must (refine wp_push_int _ _ rfl rfl hown1 (by omega) hg2.size rfl rfl ?_))
          intro v3 w3 hown3 hg3
          have hg4 := hown1.gb hg2 hg3 (Nat.le_refl _)
          rw [← Hs.out] at hown3
          obtain ⟨A3, n3, c3, rfl⟩ := hown3.ri.val
          go_wp2_with fail
          go_roundg (n + 1 - (k + 1))
          case measure => omega
          case rel => exact ⟨k + 1, by omega, rfl, by go_num, hown3, hg4⟩
        · have ha' : nd.frm.all (fun x => decide (x ∈ done)) = false := by simpa using ha
          have Ha := Lib.hid ha'
          have Hs : Hid (readyTo plan done (k + 1) = readyTo plan done k) := by
            show _ = _
            rw [hs, if_neg (by unfold readyNode; simp only [decide_eq_false hD, ha']; simp)]
          obtain ⟨A2, n2, c2, rfl⟩ := hown.ri.val
          clear hD hs ha ha'
          go_wp2_with fail
          refine (specPlanValid_b _ plan _ (h.new hg) hpl Hv.out).mono ?_
          rintro e w1 ⟨rfl, hg1⟩
          have hd1 := (hd.new hg).new hg1
          have hf1 := hf.new hg1
          have c1' : w1.cell? ⟨g, o + k * 3 + 1, none⟩ = some (.slice Af nf cf) := by
            rw [← c1]
            exact gb_cell hg1 (cell_lt c1) (by simp)
          go_wp2_with fail
          refine (l3Has_b _ _ _ _ hd1 HD.out).mono ?_
          rintro e w2 ⟨rfl, rfl⟩
          go_wp2_with fail
          refine (l5All_b _ _ _ nd.frm _ hd1 hf1 Ha.out).mono ?_
          rintro e w2 ⟨rfl, rfl⟩
          go_wp2_with fail
          go_roundg (n + 1 - (k + 1))
          case measure => omega
          case rel => exact ⟨k + 1, by omega, rfl, by go_num, by rw [Hs.out]; exact hown.new hg1, gb_trans hg hg1⟩
    · obtain rfl : k = n := by omega
      obtain ⟨A2, n2, c2, rfl⟩ := hown.ri.val
      have ho2 : OwnI wr w.heap.size (.slice A2 n2 c2) (readyOf plan done) := by
        unfold readyOf
        rw [if_pos Hv.out, ← Hn.out]
        exact hown
      clear hown
      go_wp2_with fail
      go_ret
      exact ⟨_, rfl, ho2, hg⟩
theorem crewValid_no {plan : List Node} {c : Crew} {b : Bool} (hb : crewValid plan c = b) (h : ¬ CrewOk plan c) : b = false := by
  rw [← hb]
  rcases Bool.eq_false_or_eq_true (crewValid plan c) with e | e
  · exact absurd (crewValid_iff.1 e) h
  · exact e
/-- What is known of a crew ahead of the loops of CrewValid. -/
structure CrewPre (plan : List Node) (c : Crew) : Prop where
  pv : planValid plan = true
  d1 : 1 ≤ c.deques.length
  d4 : c.deques.length ≤ 4
  order : orderOk plan c.done = true
  counts : c.counts = countsAfter plan c.done
  rl : c.rows.length = plan.length
theorem CrewPre.valid {plan : List Node} {c : Crew} (h : CrewPre plan c) : crewValid plan c = (dequesOk plan c && rowsOk plan c) := by
  unfold crewValid
  rw [h.pv, decide_eq_true h.d1, decide_eq_true h.d4, h.order, decide_eq_true h.counts, decide_eq_true h.rl]
  simp
/-- The loops of CrewValid. -/
def onceTo (plan : List Node) (c : Crew) (k : Nat) : Prop := ∀ x ∈ (readyOf plan c.done).take k, c.deques.flatten.count x = 1
def rowsTo (plan : List Node) (c : Crew) (k : Nat) : Prop := ∀ i, i < k → c.rows.getD i [] = rowWant plan c.done i
theorem onceTo_succ {plan : List Node} {c : Crew} {k : Nat} {x : Int} (h : onceTo plan c k) (hx : (readyOf plan c.done)[k]? = some x) (h1 : c.deques.flatten.count x = 1) : onceTo plan c (k + 1) := by
  obtain ⟨hk, rfl⟩ := List.getElem?_eq_some_iff.1 hx
  unfold onceTo
  rw [List.take_succ_eq_append_getElem hk]
  intro y hy
  rcases List.mem_append.1 hy with hy | hy
  · exact h y hy
  · obtain rfl : y = (readyOf plan c.done)[k] := by simpa using hy
    exact h1
theorem dequesOk_not {plan : List Node} {c : Crew} {k : Nat} {x : Int} (hx : (readyOf plan c.done)[k]? = some x) (h1 : ¬ c.deques.flatten.count x = 1) : dequesOk plan c = false := by
  unfold dequesOk
  rw [Bool.and_eq_false_iff]
  right
  rw [List.all_eq_false]
  exact ⟨x, List.mem_of_getElem? hx, by simpa using h1⟩
theorem dequesOk_size {plan : List Node} {c : Crew} (h : onceTo plan c (readyOf plan c.done).length) : dequesOk plan c = decide (c.deques.flatten.length = (readyOf plan c.done).length) := by
  unfold onceTo at h
  rw [List.take_length] at h
  unfold dequesOk
  rw [Bool.and_eq_left_iff_imp.2]
  intro _
  rw [List.all_eq_true]
  exact fun x hx => decide_eq_true (h x hx)
theorem rowsTo_succ {plan : List Node} {c : Crew} {k : Nat} {r : List Int} (h : rowsTo plan c k) (hr : c.rows[k]? = some r) (h1 : rowWant plan c.done k = r) : rowsTo plan c (k + 1) := by
  intro i hi
  by_cases e : i = k
  · subst e
    rw [List.getD_eq_getElem?_getD, hr, h1]
    rfl
  · exact h i (by omega)
theorem rowsOk_not {plan : List Node} {c : Crew} {k : Nat} {r : List Int} (hk : k < plan.length) (hr : c.rows[k]? = some r) (h1 : ¬ rowWant plan c.done k = r) : rowsOk plan c = false := by
  unfold rowsOk
  rw [List.all_eq_false]
  refine ⟨k, List.mem_range.2 hk, ?_⟩
  rw [List.getD_eq_getElem?_getD, hr]
  simpa using fun e => h1 e.symm
theorem rowsOk_all {plan : List Node} {c : Crew} (h : rowsTo plan c plan.length) : rowsOk plan c = true := by
  unfold rowsOk
  rw [List.all_eq_true]
  exact fun i hi => decide_eq_true (h i (List.mem_range.1 hi))
set_option maxHeartbeats 1600000 in
set_option maxRecDepth 20000 in
theorem specCrewValid_b (pv v : Value) (plan : List Node) (c : Crew) (w : World) (hp : RN w pv plan) (h : CV w v c) (hpl : plan.length ≤ 1000000000) (hfit : ∀ d ∈ c.deques, d.length ≤ 1048576) {b : Bool} (hb : crewValid plan c = b) :
    Calls Tryz.prog 18 #[pv, v] w fun e w' => e = .returned (.bool b) ∧ w.grownBy w' none := by
  obtain ⟨A, n, cp, rfl, -, hn, -⟩ := hp.form'
  obtain ⟨A1, n1, c1, A2, n2, c2, A3, n3, c3, A4, n4, c4, rfl, h1, -, -, h4⟩ := h.form
  have hX := h.box
  have hn1 := h1.len
  have hn4 := h4.len
  have hgW := World.grownBy_alloc w (.cells #[.slice A1 n1 c1, .slice A2 n2 c2, .slice A3 n3 c3, .slice A4 n4 c4] 27) none
  have hpW := hp.new hgW
  have Hn := Lib.hid hn
  have Hn1 := Lib.hid hn1
  have Hn4 := Lib.hid hn4
  have Hb := Lib.hid hb
  have Hfit := Lib.hid hfit
  clear hn hn1 hn4 hb hfit h1 h4 h hp
  have d0 := hX.d0
  by_cases hv : planValid plan = true
  · have Hv := Lib.hid hv
    have hn10 : n ≤ 10 := by have := planValid_len hv; have := Hn.out; omega
    by_cases hin : 1 ≤ n1 ∧ n1 ≤ 4
    · have Hin : Hid ((decide ((1 : Int) ≤ (n1 : Int)) && decide ((n1 : Int) ≤ 4)) = true) := by
        show _ = _
        rw [Bool.and_eq_true, decide_eq_true_eq, decide_eq_true_eq]
        omega
      by_cases ho : orderOk plan c.done = true
      · have Ho := Lib.hid ho
        by_cases hc : c.counts = countsAfter plan c.done
        · have Hc : Hid (decide (c.counts = countsAfter plan c.done) = true) := decide_eq_true hc
          by_cases hr : n4 = n
          · have Pre : Hid (CrewPre plan c) := ⟨hv, by have := Hn1.out; omega, by have := Hn1.out; omega, ho, hc, by rw [← Hn4.out, ← Hn.out]; exact hr⟩
            have hne : ((n4 : Int) != (n : Int)) = false := by simp [hr]
            have hn14 : n1 ≤ 4 := hin.2
            clear hv hin ho hc hr
            go_enter Tryz.func18, Tryz.ntmps18
            go_wp2_with fail
            refine (specPlanValid_b _ plan _ hpW hpl Hv.out).mono ?_
            rintro e w1 ⟨rfl, hg1⟩
            have g1 := gb_trans hgW hg1
            have hp1 := hpW.new hg1
            have hX1 := hX.new hg1
            have d0 := hX1.d0
            have d2 := hX1.d2
            go_wp2_with fail
            refine (l6In_b _ _ _ _ Hin.out).mono ?_
            rintro e w2 ⟨rfl, rfl⟩
            go_wp2_with fail
            refine (l13Order_b _ _ plan c.done _ hp1 hX1.dn hpl Ho.out).mono ?_
            rintro e w2 ⟨rfl, hg2⟩
            replace g1 := gb_trans g1 hg2
            replace hp1 := hp1.new hg2
            replace hX1 := hX1.new hg2
            clear d0 d2
            have d0 := hX1.d0
            have d2 := hX1.d2
            have d1 := hX1.d1
            have d3 := hX1.d3
            go_wp2_with fail
            refine (l13Counts_b _ _ plan c _ hp1 hX1.cv Hv.out Ho.out Hc.out).mono ?_
            rintro e w3 ⟨rfl, hg3⟩
            have g3 := gb_trans g1 hg3
            have hp3 := hp1.new hg3
            have hX3 := hX1.new hg3
            clear g1 hp1 hX1 d0 d1 d2 d3 hX hpW hgW hg1 hg3
            have d0 := hX3.d0
            have d1 := hX3.d1
            have d2 := hX3.d2
            have d3 := hX3.d3
            go_wp2_with fail
            go_loopg [5, 6] (n1 + 1) (fun mm sz i wr => ∃ k : Nat, k ≤ n1 ∧ mm = n1 + 1 - k ∧ i = .int .i64 k ∧ sz = .int .i64 ((c.deques.take k).flatten.length : Nat) ∧ wr = w3)
            case atStart => exact ⟨0, Nat.zero_le _, rfl, rfl, rfl, rfl⟩
            case round =>
              obtain ⟨k, hk, rfl, rfl, rfl, rfl⟩ := hrel
              by_cases hlt : k < n1
              · obtain ⟨g, o, d, B, m, e, rfl, hx, c0, hd, hm, -, -⟩ := hX3.dq.at_ hlt
                have hdl := Hfit.out d (List.mem_of_getElem? hx)
                have hml : m ≤ 1048576 := by omega
                have hfl : (c.deques.take k).flatten.length ≤ 4194304 := by
                  refine Nat.le_trans (flat_len (b := 1048576) (fun y hy => Hfit.out y (List.mem_of_mem_take hy))) ?_
                  have : (c.deques.take k).length ≤ 4 := by rw [List.length_take]; have := Pre.out.d4; omega
                  calc (c.deques.take k).length * 1048576 ≤ 4 * 1048576 := Nat.mul_le_mul_right _ this
                    _ ≤ 4194304 := by omega
                have Hf : Hid ((c.deques.take (k + 1)).flatten.length = (c.deques.take k).flatten.length + m) := by
                  show _ = _
                  rw [take_flat hx, List.length_append, hm]
                generalize (c.deques.take k).flatten.length = q at hfl Hf ⊢
                clear hx hm hdl
                go_wp2_with fail
                go_roundg (n1 + 1 - (k + 1))
                case measure => omega
                case rel => exact ⟨k + 1, by omega, rfl, by go_num, by rw [Hf.out]; go_num, rfl⟩
              · obtain rfl : n1 = k := by omega
                have Hr : Hid ((c.deques.take n1).flatten.length = c.deques.flatten.length) := by
                  show _ = _
                  rw [List.take_of_length_le (by rw [← Hn1.out]; exact Nat.le_refl _)]
                rw [Hr.out]
                generalize hq : c.deques.flatten.length = q
                have Hq := Lib.hid hq
                clear hq
                go_wp2_with fail
                refine (specReadyOf_any _ _ plan c.done _ hp3 hX3.dn Hv.out).mono ?_
                rintro e w5 ⟨v5, rfl, hown5, hg5⟩
                have g5 := gb_trans g3 hg5
                have hp5 := hp3.new hg5
                have hX5 := hX3.new hg5
                have hr5 := hown5.ri
                obtain ⟨A5, nr, c5, rfl⟩ := hr5.val
                have hnr := hr5.len
                have Hnr := Lib.hid hnr
                have hnr10 : nr ≤ 10 := by rw [hnr]; have := readyOf_len plan c.done; have := planValid_len Hv.out; omega
                clear hnr hown5 hg5 hp3 hX3 g3 d0 d1 d2 d3
                go_wp2_with fail
                go_loopg [8] (nr + 1) (fun mm i wr => ∃ k : Nat, k ≤ nr ∧ mm = nr + 1 - k ∧ i = .int .i64 k ∧ Hid (onceTo plan c k) ∧ w5.grownBy wr none)
                case atStart => exact ⟨0, Nat.zero_le _, rfl, rfl, by show ∀ x ∈ _, _; simp, gb_refl _ _⟩
                case round =>
                  obtain ⟨k, hk, rfl, rfl, Hk, hgk⟩ := hrel
                  by_cases hlt : k < nr
                  · obtain ⟨g, o, x, rfl, hx, c0⟩ := (hr5.new hgk).at_ hlt
                    have Hx := Lib.hid hx
                    have hXk := hX5.new hgk
                    have d0 := hXk.d0
                    have d1 := hXk.d1
                    have d2 := hXk.d2
                    have d3 := hXk.d3
                    have hdl : c.deques.length ≤ 100 := by have := Pre.out.d4; omega
                    clear hx
                    by_cases h1 : c.deques.flatten.count x = 1
                    · have Hs : Hid (onceTo plan c (k + 1)) := onceTo_succ Hk.out Hx.out h1
                      clear Hk
                      have hXd : BoxC wr.drew w.heap.size (.slice A1 n1 c1) (.slice A2 n2 c2) (.slice A3 n3 c3) (.slice A4 n4 c4) c := hXk.new (gb_drew (gb_refl _ none))
                      go_wp2_with fail
                      go_region_law (go_simp; go_at_call 40; refine (l13At_any _ c x _ (by exact hXd.cv) hdl Hfit.out).mono ?_; rintro e w6 ⟨z, rfl, hg6⟩; rw [h1])
                      all_goals
                        have hg7 := gb_trans (gb_drew hgk) hg6
                        clear h1 hXk hXd d0 d1 d2 d3
                        go_wp2_with fail
                        go_roundg (nr + 1 - (k + 1))
                        case measure => omega
                        case rel => exact ⟨k + 1, by omega, rfl, by go_num, Hs, hg7⟩
                    · have Hr : Hid (b = false) := by
                        show _ = _
                        rw [← Hb.out, Pre.out.valid, dequesOk_not Hx.out h1]
                        rfl
                      have h1' : (((c.deques.flatten.count x : Nat) : Int) != 1) = true := by simp; omega
                      clear Hk
                      have hXd : BoxC wr.drew w.heap.size (.slice A1 n1 c1) (.slice A2 n2 c2) (.slice A3 n3 c3) (.slice A4 n4 c4) c := hXk.new (gb_drew (gb_refl _ none))
                      have hAt : ∀ v' w', CV w' v' c → Calls Tryz.prog 40 #[v', .int .i64 x] w' (AtOut w' (c.deques.flatten.count x)) := fun v' w' hcv => l13At_any v' c x w' hcv hdl Hfit.out
                      have HAt := Lib.hid hAt
                      generalize c.deques.flatten.count x = y at h1' HAt
                      clear h1 hAt
                      go_wp2_with fail
                      go_region_law (go_simp; go_at_call 40; refine (HAt.out _ _ (by exact hXd.cv)).mono ?_; rintro e w6 ⟨z, rfl, hg6⟩)
                      all_goals
                        go_wp2_with fail
                        go_ret
                        exact ⟨by rw [Hr.out]; rfl, gb_trans g5 (gb_trans (gb_drew hgk) hg6)⟩
                  · obtain rfl : nr = k := by omega
                    have hD : dequesOk plan c = decide (c.deques.flatten.length = (readyOf plan c.done).length) := by
                      have := Hk.out
                      rw [Hnr.out] at this
                      exact dequesOk_size this
                    have HD := Lib.hid hD
                    have hp7 := hp5.new hgk
                    have hX7 := hX5.new hgk
                    have g7 := gb_trans g5 hgk
                    clear Hk hD hp5 hX5 g5 hgk
                    obtain ⟨w7, rfl⟩ : ∃ w7 : World, w7 = wr := ⟨_, rfl⟩
                    go_wp2_with fail
                    refine (l4Values_any _ plan _ hp7 Hv.out).mono ?_
                    rintro e w8 ⟨v8, rfl, hown8, hg8⟩
                    have g8 := gb_trans g7 hg8
                    have hX8 := hX7.new hg8
                    have hr8 := hown8.rl
                    obtain ⟨A8, n8, c8, rfl⟩ := hr8.val
                    have hn8 := hr8.len
                    have hn8' : n8 = n := by rw [hn8, values_len, Hn.out]
                    clear hown8 hg8 hp7 hX7 g7 hn8
                    subst hn8'
                    go_wp2_with fail
                    go_loopg [12] (n8 + 1) (fun mm i wr => ∃ k : Nat, k ≤ n8 ∧ mm = n8 + 1 - k ∧ i = .int .i64 k ∧ Hid (rowsTo plan c k) ∧ w8.grownBy wr none)
                    case atStart => exact ⟨0, Nat.zero_le _, rfl, rfl, fun i hi => absurd hi (Nat.not_lt_zero _), gb_refl _ _⟩
                    case round =>
                      obtain ⟨k, hk, rfl, rfl, Hk, hgk⟩ := hrel
                      have hga := gb_alloc hgk (.cells #[] 3)
                      have hXk := hX8.new hga
                      have hrk := hr8.new hga
                      have hE : RI (wr.alloc (.cells #[] 3)) (.slice (some ⟨wr.heap.size, 0, none⟩) 0 0) [] := (OwnI.empty wr (Nat.le_refl _)).ri
                      generalize hWa : wr.alloc (.cells #[] 3) = wa at hga hXk hrk hE
                      have d2 := hXk.d2
                      have d3 := hXk.d3
                      by_cases hlt : k < n8
                      · have hlt4 : k < n4 := by have h1 := Hn4.out; have h2 := Pre.out.rl; have h3 := Hn.out; omega
                        obtain ⟨g, o, l, B, m, e, rfl, hx, c0, hl, -, -, -⟩ := hrk.at_ hlt
                        obtain ⟨g', o', l', B', m', e', rfl, hx', c0', hl', -, -, -⟩ := hXk.ro.at_ hlt4
                        have hkp : k < plan.length := by rw [← Hn.out]; exact hlt
                        have hval : l = valAt plan k := by
                          have := valAt_get hkp
                          rw [hx] at this
                          injection this
                        have Hx' := Lib.hid hx'
                        have Hkp := Lib.hid hkp
                        clear hx hx' hkp
                        by_cases hD : (k : Int) ∈ c.done
                        · have HD2 : Hid (decide ((k : Int) ∈ c.done) = true) := decide_eq_true hD
                          have hw : rowWant plan c.done k = l := by unfold rowWant; rw [if_pos hD, hval]
                          by_cases hs : l = l'
                          · have Hs : Hid (decide (l = l') = true) := decide_eq_true hs
                            have Hn2 : Hid (rowsTo plan c (k + 1)) := rowsTo_succ Hk.out Hx'.out (hw.trans hs)
                            clear hD hw hs hval Hk
                            go_wp2_with fail
                            refine (l3Has_b _ _ _ _ hXk.dn HD2.out).mono ?_
                            rintro e' w9 ⟨rfl, rfl⟩
                            go_wp2_with fail
                            refine (l13Same_b _ _ _ _ _ hl hl' Hs.out).mono ?_
                            rintro e' w9 ⟨rfl, hg9⟩
                            go_wp2_with fail
                            go_roundg (n8 + 1 - (k + 1))
                            case measure => omega
                            case rel => exact ⟨k + 1, by omega, rfl, by go_num, Hn2, gb_trans hga hg9⟩
                          · have Hs : Hid (decide (l = l') = false) := decide_eq_false hs
                            have Hr : Hid (b = false) := by
                              show _ = _
                              rw [← Hb.out, Pre.out.valid, rowsOk_not Hkp.out Hx'.out (fun e => hs (hw.symm.trans e)), Bool.and_false]
                            clear hD hw hs hval Hk
                            go_wp2_with fail
                            refine (l3Has_b _ _ _ _ hXk.dn HD2.out).mono ?_
                            rintro e' w9 ⟨rfl, rfl⟩
                            go_wp2_with fail
                            refine (l13Same_b _ _ _ _ _ hl hl' Hs.out).mono ?_
                            rintro e' w9 ⟨rfl, hg9⟩
                            go_wp2_with fail
                            go_ret
                            exact ⟨by rw [Hr.out]; rfl, gb_trans g8 (gb_trans hga hg9)⟩
                        · have HD2 : Hid (decide ((k : Int) ∈ c.done) = false) := decide_eq_false hD
                          have hw : rowWant plan c.done k = [] := by unfold rowWant; rw [if_neg hD]
                          by_cases hs : [] = l'
                          · have Hs : Hid (decide ([] = l') = true) := decide_eq_true hs
                            have Hn2 : Hid (rowsTo plan c (k + 1)) := rowsTo_succ Hk.out Hx'.out (hw.trans hs)
                            clear hD hw hs hval Hk
                            go_wp2_with fail
                            refine (l3Has_b _ _ _ _ hXk.dn HD2.out).mono ?_
                            rintro e' w9 ⟨rfl, rfl⟩
                            go_wp2_with fail
                            refine (l13Same_b _ _ _ _ _ hE hl' Hs.out).mono ?_
                            rintro e' w9 ⟨rfl, hg9⟩
                            go_wp2_with fail
                            go_roundg (n8 + 1 - (k + 1))
                            case measure => omega
                            case rel => exact ⟨k + 1, by omega, rfl, by go_num, Hn2, gb_trans hga hg9⟩
                          · have Hs : Hid (decide ([] = l') = false) := decide_eq_false hs
                            have Hr : Hid (b = false) := by
                              show _ = _
                              rw [← Hb.out, Pre.out.valid, rowsOk_not Hkp.out Hx'.out (fun e => hs (hw.symm.trans e)), Bool.and_false]
                            clear hD hw hs hval Hk
                            go_wp2_with fail
                            refine (l3Has_b _ _ _ _ hXk.dn HD2.out).mono ?_
                            rintro e' w9 ⟨rfl, rfl⟩
                            go_wp2_with fail
                            refine (l13Same_b _ _ _ _ _ hE hl' Hs.out).mono ?_
                            rintro e' w9 ⟨rfl, hg9⟩
                            go_wp2_with fail
                            go_ret
                            exact ⟨by rw [Hr.out]; rfl, gb_trans g8 (gb_trans hga hg9)⟩
                      · obtain rfl : n8 = k := by omega
                        have Hr : Hid (((q : Int) == (nr : Int)) = b) := by
                          show _ = _
                          have hk2 := Hk.out
                          rw [Hn.out] at hk2
                          rw [← Hb.out, Pre.out.valid, HD.out, rowsOk_all hk2, Bool.and_true, Hq.out, ← Hnr.out, Bool.eq_iff_iff]
                          simp
                          omega
                        clear Hk hWa hga hXk hrk hE d2 d3
                        go_wp2_with fail
                        go_ret
                        exact ⟨by rw [Hr.out]; rfl, gb_trans g8 hgk⟩
          · have Hr : Hid (b = false) := crewValid_no Hb.out (fun e => hr (by rw [Hn4.out, e.rl, ← Hn.out]))
            have hne : ((n4 : Int) != (n : Int)) = true := by simp; omega
            clear hr hc ho hin hv
            go_enter Tryz.func18, Tryz.ntmps18
            go_wp2_with fail
            refine (specPlanValid_b _ plan _ hpW hpl Hv.out).mono ?_
            rintro e w1 ⟨rfl, hg1⟩
            have g1 := gb_trans hgW hg1
            have hp1 := hpW.new hg1
            have hX1 := hX.new hg1
            have d0 := hX1.d0
            have d2 := hX1.d2
            go_wp2_with fail
            refine (l6In_b _ _ _ _ Hin.out).mono ?_
            rintro e w2 ⟨rfl, rfl⟩
            go_wp2_with fail
            refine (l13Order_b _ _ plan c.done _ hp1 hX1.dn hpl Ho.out).mono ?_
            rintro e w2 ⟨rfl, hg2⟩
            replace g1 := gb_trans g1 hg2
            replace hp1 := hp1.new hg2
            replace hX1 := hX1.new hg2
            clear d0 d2
            have d0 := hX1.d0
            have d2 := hX1.d2
            have d1 := hX1.d1
            have d3 := hX1.d3
            go_wp2_with fail
            refine (l13Counts_b _ _ plan c _ hp1 hX1.cv Hv.out Ho.out Hc.out).mono ?_
            rintro e w3 ⟨rfl, hg3⟩
            have g3 := gb_trans g1 hg3
            have hX3 := hX1.new hg3
            clear d0 d1 d2 d3
            have d3 := hX3.d3
            go_wp2_with fail
            go_ret
            exact ⟨by rw [Hr.out]; rfl, g3⟩
        · have Hr : Hid (b = false) := crewValid_no Hb.out (fun e => hc (by rw [e.counts, countsAfter_eq e.pv e.order]))
          have Hc : Hid (decide (c.counts = countsAfter plan c.done) = false) := decide_eq_false hc
          clear hc ho hin hv
          go_enter Tryz.func18, Tryz.ntmps18
          go_wp2_with fail
          refine (specPlanValid_b _ plan _ hpW hpl Hv.out).mono ?_
          rintro e w1 ⟨rfl, hg1⟩
          have g1 := gb_trans hgW hg1
          have hp1 := hpW.new hg1
          have hX1 := hX.new hg1
          have d0 := hX1.d0
          have d2 := hX1.d2
          go_wp2_with fail
          refine (l6In_b _ _ _ _ Hin.out).mono ?_
          rintro e w2 ⟨rfl, rfl⟩
          go_wp2_with fail
          refine (l13Order_b _ _ plan c.done _ hp1 hX1.dn hpl Ho.out).mono ?_
          rintro e w2 ⟨rfl, hg2⟩
          replace g1 := gb_trans g1 hg2
          replace hp1 := hp1.new hg2
          replace hX1 := hX1.new hg2
          clear d0 d2
          have d0 := hX1.d0
          have d2 := hX1.d2
          have d1 := hX1.d1
          have d3 := hX1.d3
          go_wp2_with fail
          refine (l13Counts_b _ _ plan c _ hp1 hX1.cv Hv.out Ho.out Hc.out).mono ?_
          rintro e w3 ⟨rfl, hg3⟩
          have g3 := gb_trans g1 hg3
          go_wp2_with fail
          go_ret
          exact ⟨by rw [Hr.out]; rfl, g3⟩
      · have Hr : Hid (b = false) := crewValid_no Hb.out (fun e => ho e.order)
        have Ho' : Hid (orderOk plan c.done = false) := by show _ = _; simpa using ho
        clear ho hin hv
        go_enter Tryz.func18, Tryz.ntmps18
        go_wp2_with fail
        refine (specPlanValid_b _ plan _ hpW hpl Hv.out).mono ?_
        rintro e w1 ⟨rfl, hg1⟩
        have g1 := gb_trans hgW hg1
        have hp1 := hpW.new hg1
        have hX1 := hX.new hg1
        have d0 := hX1.d0
        have d2 := hX1.d2
        go_wp2_with fail
        refine (l6In_b _ _ _ _ Hin.out).mono ?_
        rintro e w2 ⟨rfl, rfl⟩
        go_wp2_with fail
        refine (l13Order_b _ _ plan c.done _ hp1 hX1.dn hpl Ho'.out).mono ?_
        rintro e w2 ⟨rfl, hg2⟩
        replace g1 := gb_trans g1 hg2
        replace hp1 := hp1.new hg2
        replace hX1 := hX1.new hg2
        clear d0 d2
        have d0 := hX1.d0
        have d2 := hX1.d2
        go_wp2_with fail
        go_ret
        exact ⟨by rw [Hr.out]; rfl, g1⟩
    · have Hr : Hid (b = false) := crewValid_no Hb.out (fun e => hin ⟨by have := Hn1.out; have := e.d1; omega, by have := Hn1.out; have := e.d4; omega⟩)
      have Hin : Hid ((decide ((1 : Int) ≤ (n1 : Int)) && decide ((n1 : Int) ≤ 4)) = false) := by
        show _ = _
        rw [Bool.and_eq_false_iff, decide_eq_false_iff_not, decide_eq_false_iff_not]
        omega
      clear hin hv
      go_enter Tryz.func18, Tryz.ntmps18
      go_wp2_with fail
      refine (specPlanValid_b _ plan _ hpW hpl Hv.out).mono ?_
      rintro e w1 ⟨rfl, hg1⟩
      have g1 := gb_trans hgW hg1
      have hp1 := hpW.new hg1
      have hX1 := hX.new hg1
      have d0 := hX1.d0
      have d2 := hX1.d2
      go_wp2_with fail
      refine (l6In_b _ _ _ _ Hin.out).mono ?_
      rintro e w2 ⟨rfl, rfl⟩
      go_wp2_with fail
      go_ret
      exact ⟨by rw [Hr.out]; rfl, g1⟩
  · have Hr : Hid (b = false) := crewValid_no Hb.out (fun e => hv e.pv)
    have Hv' : Hid (planValid plan = false) := by show _ = _; simpa using hv
    clear hv
    go_enter Tryz.func18, Tryz.ntmps18
    go_wp2_with fail
    refine (specPlanValid_b _ plan _ hpW hpl Hv'.out).mono ?_
    rintro e w1 ⟨rfl, hg1⟩
    have g1 := gb_trans hgW hg1
    go_wp2_with fail
    go_ret
    exact ⟨by rw [Hr.out]; rfl, g1⟩
end Go.Proofs.YtihobnheficpjaaGreat
namespace Go.Proofs.YtihobnheficpjaaGreat
open Go.RowKit

def gDst (ops : Array Oper) (j : Nat) : Nat := ((ops[j]?).bind (fun o => o.dst)).getD 0
/-- Operation j stands behind operation i by an edge. -/
def gBehind (ops : Array Oper) (j i : Nat) : Bool := ((ops[j]?).map fun o => o.after.any fun e => Region.binds .any e && e.on == i).getD false
/-- The first n operations are unguarded and write slots of their own, below m; each of the others stands behind all ahead of it. -/
def gCheck (ops : Array Oper) (n m : Nat) : Bool :=
  ((List.range n).all fun j => ((ops[j]?).map fun o => o.guard.isNone && o.dst.isSome).getD false && decide (gDst ops j < m) && (List.range j).all fun i => !decide (gDst ops i = gDst ops j)) &&
  ((List.range ops.size).all fun t => (decide (t < n) || (List.range t).all fun i => gBehind ops t i) && ((ops[t]?).map fun o => o.after.all fun e => decide (e.on < t)).getD false) && decide (n ≤ ops.size)
def putTo (ops : Array Oper) (vs : List Value) (a : Act) (k : Nat) : Act := (List.range k).foldl (fun a j => a.put (some (gDst ops j)) (vs.getD j undef)) a
/-- The frame stands but for the slots of the first n operations. -/
def gSame (ops : Array Oper) (n : Nat) (a0 a : Act) : Prop := a.tmps.size = a0.tmps.size ∧ a.defers = a0.defers ∧ ∀ t, (∀ j, j < n → gDst ops j ≠ t) → a.tmps[t]? = a0.tmps[t]?
theorem eval_get {a : Act} {t : Nat} {v : Value} (h : a.tmps[t]? = some v) : a.eval (.tmp t) = v := by
  unfold Act.eval
  simp only
  rw [Array.getD_eq_getD_getElem?, h]
  rfl
theorem gSame.eval {ops : Array Oper} {n : Nat} {a0 a : Act} (h : gSame ops n a0 a) {t : Nat} {v : Value} (ht : ∀ j, j < n → gDst ops j ≠ t) (hv : a0.tmps[t]? = some v) : a.eval (.tmp t) = v :=
  eval_get ((h.2.2 t ht).trans hv)
structure GrowI (ops : Array Oper) (n : Nat) (F : Nat → World → Value → Prop) (a0 : Act) (w0 : World) (listed : Array Bool) (a : Act) (w : World) : Prop where
  sz : listed.size = ops.size
  g : w0.grownBy w none
  ts : a.tmps.size = a0.tmps.size
  df : a.defers = a0.defers
  oth : ∀ t, (∀ j, j < n → listed.getD j false = true → gDst ops j ≠ t) → a.tmps[t]? = a0.tmps[t]?
  val : ∀ j, j < n → listed.getD j false = true → ∃ v, a.tmps[gDst ops j]? = some v ∧ F j w v
  rest : ∀ j, n ≤ j → j < ops.size → listed.getD j true = false
section
variable {P : Program} {ops : Array Oper} {Q : Exit → Act → World → Prop} {n : Nat} {F : Nat → World → Value → Prop} {a0 : Act} {w0 : World}
theorem gCheck_op {m : Nat} (h : gCheck ops n m = true) {j : Nat} (hj : j < n) : ∃ o, ops[j]? = some o ∧ o.guard = none ∧ o.dst = some (gDst ops j) ∧ gDst ops j < m := by
  unfold gCheck at h
  simp only [Bool.and_eq_true, List.all_eq_true, List.mem_range, decide_eq_true_eq] at h
  obtain ⟨⟨h1, h2⟩, h3⟩ := h
  have := (h1 j hj).1
  cases ho : ops[j]? with
  | none => rw [ho] at this; simp at this
  | some o =>
    rw [ho] at this
    simp only [Option.map_some, Option.getD_some, Bool.and_eq_true] at this
    obtain ⟨⟨k1, k2⟩, k3⟩ := this
    refine ⟨o, rfl, by simpa using k1, ?_, k3⟩
    unfold gDst
    rw [ho]
    cases hd : o.dst with
    | none => rw [hd] at k2; cases k2
    | some d => simp [hd]
theorem gCheck_apart {m : Nat} (h : gCheck ops n m = true) {i j : Nat} (hj : j < n) (hi : i < n) (hne : i ≠ j) : gDst ops i ≠ gDst ops j := by
  unfold gCheck at h
  simp only [Bool.and_eq_true, List.all_eq_true, List.mem_range, decide_eq_true_eq] at h
  obtain ⟨⟨h1, h2⟩, h3⟩ := h
  rcases Nat.lt_or_gt_of_ne hne with hlt | hlt
  · have := (h1 j hj).2 i hlt
    simpa using this
  · have := (h1 i hi).2 j hlt
    intro e
    simp [e] at this
theorem gCheck_tail {m : Nat} (h : gCheck ops n m = true) {t i : Nat} (ht : n ≤ t) (hts : t < ops.size) (hi : i < t) : gBehind ops t i = true := by
  unfold gCheck at h
  simp only [Bool.and_eq_true, List.all_eq_true, List.mem_range, decide_eq_true_eq, Bool.or_eq_true] at h
  rcases (h.1.2 t hts).1 with h | h
  · omega
  · exact h i hi
theorem gCheck_le {m : Nat} (h : gCheck ops n m = true) : n ≤ ops.size := by
  unfold gCheck at h
  simp only [Bool.and_eq_true, decide_eq_true_eq] at h
  exact h.2
theorem gCheck_back {m : Nat} (h : gCheck ops n m = true) {t : Nat} (hts : t < ops.size) {o : Oper} (ho : ops[t]? = some o) : ∀ e ∈ o.after, e.on < t := by
  unfold gCheck at h
  simp only [Bool.and_eq_true, List.all_eq_true, List.mem_range, decide_eq_true_eq, Bool.or_eq_true] at h
  have := (h.1.2 t hts).2
  rw [ho] at this
  simp only [Option.map_some, Option.getD_some] at this
  intro e he
  have := Array.all_eq_true_iff_forall_mem.1 this e he
  simpa using this
/-- While an operation is not listed, one is ready. -/
theorem ready_some {m : Nat} (hc : gCheck ops n m = true) {listed : Array Bool} (hsz : listed.size = ops.size) {t : Nat} (hts : t < ops.size) (hall : ∀ i, i < t → listed.getD i false = true) (hf : listed.getD t false = false) : t ∈ Region.ready .any ops listed := by
  unfold Region.ready
  simp only [List.mem_filter, List.mem_range, Bool.and_eq_true, Bool.not_eq_true']
  have ho : ops[t]? = some ops[t] := Array.getElem?_eq_getElem hts
  refine ⟨hts, ?_, ?_⟩
  · rw [Array.getD_eq_getD_getElem?, Array.getElem?_eq_getElem (by omega)] at hf ⊢
    exact hf
  · rw [ho]
    simp only [Option.map_some, Option.getD_some]
    rw [Array.all_eq_true_iff_forall_mem]
    intro e he
    rw [hall _ (gCheck_back hc hts ho e he), Bool.or_true]
theorem behind_listed {listed : Array Bool} {t i : Nat} (hr : t ∈ Region.ready .any ops listed) (hb : gBehind ops t i = true) : listed.getD i false = true := by
  obtain ⟨h1, h2, h3⟩ : t < ops.size ∧ listed.getD t true = false ∧ ((ops[t]?).map (·.after.all fun e => !Region.binds .any e || listed.getD e.on false)).getD false = true := by
    unfold Region.ready at hr
    simp only [List.mem_filter, List.mem_range, Bool.and_eq_true, Bool.not_eq_true'] at hr
    exact ⟨hr.1, hr.2.1, hr.2.2⟩
  unfold gBehind at hb
  cases ho : ops[t]? with
  | none => rw [ho] at hb; cases hb
  | some o =>
    rw [ho] at hb h3
    simp only [Option.map_some, Option.getD_some] at hb h3
    obtain ⟨e, he, hb⟩ := Array.any_eq_true'.1 hb
    simp only [Bool.and_eq_true, beq_iff_eq] at hb
    have := Array.all_eq_true_iff_forall_mem.1 h3 e he
    rw [hb.1, hb.2] at this
    simpa using this
theorem ready_unlisted {listed : Array Bool} {t : Nat} (hr : t ∈ Region.ready .any ops listed) : t < ops.size ∧ listed.getD t true = false := by
  unfold Region.ready at hr
  simp only [List.mem_filter, List.mem_range, Bool.and_eq_true, Bool.not_eq_true'] at hr
  exact ⟨hr.1, hr.2.1⟩
theorem getD_tf {listed : Array Bool} {t : Nat} (h : t < listed.size) : listed.getD t true = listed.getD t false := by
  rw [Array.getD_eq_getD_getElem?, Array.getD_eq_getD_getElem?, Array.getElem?_eq_getElem h]
  rfl
theorem getD_seti {listed : Array Bool} {i : Nat} (hi : i < listed.size) (j : Nat) : (listed.setIfInBounds i true).getD j false = (decide (j = i) || listed.getD j false) := by
  rw [Array.getD_eq_getD_getElem?, Array.getD_eq_getD_getElem?, Array.getElem?_setIfInBounds]
  by_cases e : i = j
  · subst e
    simp [hi]
  · have : ¬ j = i := fun h => e h.symm
    simp [e, this]
/-- The rest in its one order, from operation t on. -/
theorem wpAny_tail {m : Nat} (hc : gCheck ops n m = true) : ∀ (fuel t : Nat) (listed : Array Bool) (a : Act) (w : World), n ≤ t → t ≤ ops.size → listed.size = ops.size → (∀ j, j < ops.size → listed.getD j false = decide (j < t)) → ops.size - t ≤ fuel →
    wpOps P ops Q (List.range' t (ops.size - t)) a w → wpAny P .any ops Q fuel listed a w := by
  intro fuel
  induction fuel with
  | zero =>
    intro t listed a w h1 h2 h3 h4 h5 h6
    obtain rfl : t = ops.size := by omega
    have hr : Region.ready .any ops listed = [] := by
      rw [List.eq_nil_iff_forall_not_mem]
      intro j hj
      obtain ⟨k1, k2⟩ := ready_unlisted hj
      rw [getD_tf (by omega), h4 j k1] at k2
      simp at k2
      omega
    refine ⟨hr, ?_⟩
    rw [Nat.sub_self] at h6
    exact h6
  | succ fuel ih =>
    intro t listed a w h1 h2 h3 h4 h5 h6
    have hone : ∀ j ∈ Region.ready .any ops listed, j = t := by
      intro j hj
      obtain ⟨k1, k2⟩ := ready_unlisted hj
      rw [getD_tf (by omega), h4 j k1] at k2
      have hge : t ≤ j := by simpa using k2
      rcases Nat.eq_or_lt_of_le hge with e | e
      · exact e.symm
      · have := behind_listed hj (gCheck_tail hc (by omega) k1 e)
        rw [h4 t (by omega)] at this
        simp at this
    by_cases ht : t = ops.size
    · subst ht
      refine ⟨fun _ => by rw [Nat.sub_self] at h6; exact h6, fun i hi => ?_⟩
      have := hone i hi
      have := (ready_unlisted hi).1
      omega
    · have hlt : t < ops.size := by omega
      have hsucc : ops.size - t = (ops.size - (t + 1)) + 1 := by omega
      rw [hsucc, List.range'_succ, wpOps_cons] at h6
      have hnext : ∀ a w, wpOps P ops Q (List.range' (t + 1) (ops.size - (t + 1))) a w → wpAny P .any ops Q fuel (listed.setIfInBounds t true) a w := by
        intro a w h
        refine ih (t + 1) _ a w (by omega) (by omega) (by simpa using h3) (fun j hj => ?_) (by omega) h
        rw [getD_seti (by omega), h4 j hj, Bool.eq_iff_iff]
        simp only [Bool.or_eq_true, decide_eq_true_eq]
        omega
      refine ⟨fun hr => ?_, fun i hi => ?_⟩
      · exfalso
        have hmem : t ∈ Region.ready .any ops listed := ready_some hc h3 hlt (fun i hi => by rw [h4 i (by omega)]; simpa using hi) (by rw [h4 t hlt]; simp)
        rw [hr] at hmem
        cases hmem
      · obtain rfl := hone i hi
        exact wpOp_mono hnext h6
theorem put_get {a : Act} {d t : Nat} {v : Value} (hd : d < a.tmps.size) : (a.put (some d) v).tmps[t]? = if d = t then some v else a.tmps[t]? := by
  unfold Act.put
  simp only
  rw [Array.getElem?_setIfInBounds]
  by_cases e : d = t
  · subst e; simp [hd]
  · simp [e]
/-- What is asked of one of the first n operations: from any frame and world in which the operations that it stands behind have yielded, it yields what F says, and memory has only been made. -/
def gOp (P : Program) (ops : Array Oper) (Q : Exit → Act → World → Prop) (n : Nat) (F : Nat → World → Value → Prop) (a0 : Act) (w0 : World) (j : Nat) : Prop :=
  ∀ (o : Oper) (a : Act) (w : World) (K : Act → World → Prop), ops[j]? = some o → w0.grownBy w none → gSame ops n a0 a → (∀ i, i < n → gBehind ops j i = true → ∃ v, a.tmps[gDst ops i]? = some v ∧ F i w v) →
    (∀ v w', w.grownBy w' none → F j w' v → K (a.put o.dst v) w') → o.wp P a w K Q
theorem GrowI.step {m : Nat} (hc : gCheck ops n m = true) (hm : a0.tmps.size = m) (hF : ∀ j w w' v, F j w v → w.grownBy w' none → F j w' v) {listed : Array Bool} {a : Act} {w w' : World} {v : Value} {j : Nat}
    (h : GrowI ops n F a0 w0 listed a w) (hj : j < n) (hg : w.grownBy w' none) (hv : F j w' v) : GrowI ops n F a0 w0 (listed.setIfInBounds j true) (a.put (some (gDst ops j)) v) w' := by
  obtain ⟨o, ho, _, _, hlt⟩ := gCheck_op hc hj
  have hjs : j < ops.size := (Array.getElem?_eq_some_iff.1 ho).1
  have hd : gDst ops j < a.tmps.size := by rw [h.ts]; omega
  refine ⟨by simpa using h.sz, gb_trans h.g hg, by unfold Act.put; simpa using h.ts, h.df, fun t ht => ?_, fun i hi hl => ?_, fun i hi his => ?_⟩
  · rw [put_get hd, if_neg (ht j hj (by rw [getD_seti (by rw [h.sz]; exact hjs)]; simp))]
    exact h.oth t (fun i hi hl => ht i hi (by rw [getD_seti (by rw [h.sz]; exact hjs), hl, Bool.or_true]))
  · by_cases e : i = j
    · subst e
      exact ⟨v, by rw [put_get hd, if_pos rfl], hv⟩
    · rw [getD_seti (by rw [h.sz]; exact hjs)] at hl
      have hl' : listed.getD i false = true := by simpa [e] using hl
      obtain ⟨u, k1, k2⟩ := h.val i hi hl'
      exact ⟨u, by rw [put_get hd, if_neg (gCheck_apart hc hi hj (fun e' => e e'.symm))]; exact k1, hF i w w' u k2 hg⟩
  · have := h.rest i hi his
    rw [getD_tf (by simp; rw [h.sz]; exact his), getD_seti (by rw [h.sz]; exact hjs)]
    rw [getD_tf (by rw [h.sz]; exact his)] at this
    rw [this]
    simp
    omega
theorem wpAny_grow {m : Nat} (hc : gCheck ops n m = true) (hm : a0.tmps.size = m) (hF : ∀ j w w' v, F j w v → w.grownBy w' none → F j w' v) (hop : ∀ j, j < n → gOp P ops Q n F a0 w0 j)
    (hrest : ∀ a w, GrowI ops n F a0 w0 (Array.ofFn (n := ops.size) fun j => decide (j.val < n)) a w → wpOps P ops Q (List.range' n (ops.size - n)) a w) :
    ∀ (fuel : Nat) (listed : Array Bool) (a : Act) (w : World), GrowI ops n F a0 w0 listed a w → ops.size - (listed.toList.countP id) ≤ fuel → wpAny P .any ops Q fuel listed a w := by
  have hle := gCheck_le hc
  have hfull : ∀ (listed : Array Bool) (a : Act) (w : World), GrowI ops n F a0 w0 listed a w → (∀ j, j < n → listed.getD j false = true) → listed = Array.ofFn (n := ops.size) fun j => decide (j.val < n) := by
    intro listed a w h hall
    apply Array.ext
    · rw [h.sz]; simp
    · intro i hi hi2
      rw [h.sz] at hi
      rw [Array.getElem_ofFn]
      by_cases e : i < n
      · have := hall i e
        rw [Array.getD_eq_getD_getElem?, Array.getElem?_eq_getElem (by rw [h.sz]; exact hi)] at this
        simpa [e] using this
      · have := h.rest i (by omega) hi
        rw [Array.getD_eq_getD_getElem?, Array.getElem?_eq_getElem (by rw [h.sz]; exact hi)] at this
        simpa [e] using this
  have hgetF : ∀ j, j < ops.size → (Array.ofFn (n := ops.size) fun j => decide (j.val < n)).getD j false = decide (j < n) := by
    intro j hj
    rw [Array.getD_eq_getD_getElem?, Array.getElem?_eq_getElem (by simpa using hj), Array.getElem_ofFn]
    rfl
  intro fuel
  induction fuel with
  | zero =>
    intro listed a w h hf
    have hcnt : listed.toList.countP id = listed.toList.length := by
      have := List.countP_le_length (p := id) (l := listed.toList)
      have hs := h.sz
      rw [Array.length_toList] at this ⊢
      omega
    have hall : ∀ j, j < n → listed.getD j false = true := by
      intro j hj
      rw [List.countP_eq_length] at hcnt
      have hjl : j < listed.size := by rw [h.sz]; omega
      have := hcnt listed[j] (by simp)
      rw [Array.getD_eq_getD_getElem?, Array.getElem?_eq_getElem hjl]
      exact this
    have e := hfull listed a w h hall
    rw [e] at h ⊢
    by_cases hn : n = ops.size
    · refine wpAny_tail hc 0 n _ a w (Nat.le_refl _) hle (by simp) hgetF (by omega) (hrest a w h)
    · exfalso
      rw [e] at hcnt
      rw [List.countP_eq_length] at hcnt
      have hlt : n < (Array.ofFn (n := ops.size) fun j => decide (j.val < n)).size := by simp; omega
      have := hcnt (Array.ofFn (n := ops.size) fun j => decide (j.val < n))[n] (by simp; exact ⟨⟨n, by omega⟩, Nat.le_refl _⟩)
      rw [Array.getElem_ofFn] at this
      simp at this
  | succ fuel ih =>
    intro listed a w h hf
    by_cases hall : ∀ j, j < n → listed.getD j false = true
    · have e := hfull listed a w h hall
      rw [e] at h ⊢
      refine wpAny_tail hc (fuel + 1) n _ a w (Nat.le_refl _) hle (by simp) hgetF ?_ (hrest a w h)
      rw [e] at hf
      have hcn : (Array.ofFn (n := ops.size) fun j => decide (j.val < n)).toList.countP id ≤ n := by
        have h1 : (Array.ofFn (n := ops.size) fun j => decide (j.val < n)).toList = (List.range ops.size).map fun j => decide (j < n) := by
          apply List.ext_getElem
          · simp
          · intro i h1 h2
            simp
        rw [h1, List.countP_map]
        have h2 : ∀ k, (List.range k).countP (id ∘ fun j => decide (j < n)) ≤ n := by
          intro k
          induction k with
          | zero => simp
          | succ k ihk =>
            rw [List.range_succ, List.countP_append, List.countP_singleton]
            by_cases hk : k < n
            · have : (List.range k).countP (id ∘ fun j => decide (j < n)) ≤ k := by
                refine Nat.le_trans List.countP_le_length ?_
                simp
              split <;> omega
            · have : ¬ ((id ∘ fun j => decide (j < n)) k = true) := by simp; omega
              rw [if_neg this]
              omega
        exact h2 _
      omega
    · have hne : ∃ j, j < n ∧ listed.getD j false = false := by
        apply Classical.byContradiction
        intro hno
        apply hall
        intro j hj
        rcases Bool.eq_false_or_eq_true (listed.getD j false) with k | k
        · exact k
        · exact absurd ⟨j, hj, k⟩ hno
      refine ⟨fun hr => ?_, fun i hi => ?_⟩
      · exfalso
        -- the least one that is not listed is ready
        have hmin : ∀ k, (∃ j, j < k ∧ j < n ∧ listed.getD j false = false) → ∃ j, j < n ∧ listed.getD j false = false ∧ ∀ i, i < j → listed.getD i false = true := by
          intro k
          induction k with
          | zero => rintro ⟨j, hj, _⟩; omega
          | succ k ihk =>
            rintro ⟨j, hj, hjn, hjf⟩
            by_cases hex : ∃ j, j < k ∧ j < n ∧ listed.getD j false = false
            · exact ihk hex
            · have hjk : j = k := by
                apply Classical.byContradiction
                intro hne'
                exact hex ⟨j, by omega, hjn, hjf⟩
              subst hjk
              refine ⟨j, hjn, hjf, fun i hi => ?_⟩
              rcases Bool.eq_false_or_eq_true (listed.getD i false) with q | q
              · exact q
              · exact absurd ⟨i, hi, by omega, q⟩ hex
        obtain ⟨j, hj, hjf⟩ := hne
        obtain ⟨t, ht, htf, hta⟩ := hmin n ⟨j, hj, hj, hjf⟩
        have := ready_some hc h.sz (by omega) hta htf
        rw [hr] at this
        cases this
      · obtain ⟨his, hif⟩ := ready_unlisted hi
        have hin : i < n := by
          apply Classical.byContradiction
          intro hge
          obtain ⟨j, hj, hjf⟩ := hne
          have := behind_listed hi (gCheck_tail hc (by omega) his (i := j) (by omega))
          rw [hjf] at this
          cases this
        obtain ⟨o, ho, hgd, hdst, hdl⟩ := gCheck_op hc hin
        have hsame : gSame ops n a0 a := ⟨h.ts, h.df, fun t ht => h.oth t (fun j hj _ => ht j hj)⟩
        have hw := hop i hin o a w (wpAny P .any ops Q fuel (listed.setIfInBounds i true)) ho h.g hsame (fun j hj hb => h.val j hj (behind_listed hi hb)) (fun v w' hg hv => by
          rw [hdst]
          refine ih _ _ _ (h.step hc hm hF hin hg hv) ?_
          have hil : i < listed.size := by rw [h.sz]; exact his
          have hcount : (listed.setIfInBounds i true).toList.countP id = listed.toList.countP id + 1 := by
            have hfi : listed.toList[i] = false := by
              have := hif
              rw [getD_tf hil, Array.getD_eq_getD_getElem?, Array.getElem?_eq_getElem hil] at this
              simpa using this
            rw [Array.toList_setIfInBounds, List.countP_set (by simpa using hil), hfi]
            simp
          omega)
        unfold wpOp
        rw [ho]
        simp only
        rw [if_pos (by simp [Region.wanted, hgd])]
        exact .inl hw
theorem putTo_succ (vs : List Value) (a : Act) (k : Nat) : putTo ops vs a (k + 1) = (putTo ops vs a k).put (some (gDst ops k)) (vs.getD k undef) := by
  unfold putTo
  rw [List.range_succ, List.foldl_append]
  rfl
theorem putTo_spec {m : Nat} (hc : gCheck ops n m = true) (hm : a0.tmps.size = m) (vs : List Value) : ∀ k, k ≤ n → (putTo ops vs a0 k).tmps.size = m ∧ (putTo ops vs a0 k).defers = a0.defers ∧ (∀ t, (∀ j, j < k → gDst ops j ≠ t) → (putTo ops vs a0 k).tmps[t]? = a0.tmps[t]?) ∧
    ∀ j, j < k → (putTo ops vs a0 k).tmps[gDst ops j]? = some (vs.getD j undef) := by
  intro k
  induction k with
  | zero => intro _; exact ⟨hm, rfl, fun _ _ => rfl, fun j hj => absurd hj (Nat.not_lt_zero _)⟩
  | succ k ih =>
    intro hk
    obtain ⟨h1, h2, h3, h4⟩ := ih (by omega)
    obtain ⟨o, ho, _, _, hlt⟩ := gCheck_op hc (show k < n by omega)
    have hd : gDst ops k < (putTo ops vs a0 k).tmps.size := by rw [h1]; exact hlt
    rw [putTo_succ]
    refine ⟨by unfold Act.put; simpa using h1, h2, fun t ht => ?_, fun j hj => ?_⟩
    · rw [put_get hd, if_neg (ht k (by omega))]
      exact h3 t (fun j hj => ht j (by omega))
    · by_cases e : j = k
      · subst e
        rw [put_get hd, if_pos rfl]
      · rw [put_get hd, if_neg (gCheck_apart hc (by omega) (by omega) (fun e' => e e'.symm))]
        exact h4 j (by omega)
theorem act_ext {a b : Act} (h1 : a.tmps = b.tmps) (h2 : a.defers = b.defers) : a = b := by
  cases a; cases b; simp only at h1 h2; subst h1 h2; rfl
theorem wp_region_grow {id m : Nat} {w00 : World} (hmx : P.follows .mixedOrders = true) (hc : gCheck ops n m = true) (hm : a0.tmps.size = m) (hF : ∀ j w w' v, F j w v → w.grownBy w' none → F j w' v)
    (hop : ∀ j, j < n → gOp P ops Q n F a0 w00.drew j)
    (hrest : ∀ vs : List Value, vs.length = n → ∀ w, w00.drew.grownBy w none → (∀ j, j < n → F j w (vs.getD j undef)) → wpList P ops Q (ops.toList.drop n) (putTo ops vs a0 n) w) :
    (Code.region id ops true).wp P Q a0 w00 := by
  have hle := gCheck_le hc
  refine wp_region_any hmx (wpAny_grow (F := F) (w0 := w00.drew) hc hm hF hop ?_ ops.size _ a0 _ ?_ (by omega))
  · intro a w h
    have hget : ∀ j, j < n → (Array.ofFn (n := ops.size) fun j => decide (j.val < n)).getD j false = true := by
      intro j hj
      rw [Array.getD_eq_getD_getElem?, Array.getElem?_eq_getElem (by simp; omega), Array.getElem_ofFn]
      simpa using hj
    have e1 : wpOps P ops Q (List.range' n (ops.size - n)) = wpList P ops Q (ops.toList.drop n) := by
      have := wpOps_eq_wpList (P := P) (ops := ops) (Q := Q) (ops.toList.drop n) n (fun j => by rw [List.getElem?_drop, Array.getElem?_toList])
      rw [List.length_drop, Array.length_toList] at this
      exact this
    rw [e1]
    have hea : a = putTo ops ((List.range n).map fun j => (a.tmps[gDst ops j]?).getD undef) a0 n := by
      obtain ⟨k1, k2, k3, k4⟩ := putTo_spec hc hm ((List.range n).map fun j => (a.tmps[gDst ops j]?).getD undef) n (Nat.le_refl _)
      refine act_ext ?_ (h.df.trans k2.symm)
      apply Array.ext_getElem?
      intro t
      by_cases ht : ∃ j, j < n ∧ gDst ops j = t
      · obtain ⟨j, hj, rfl⟩ := ht
        obtain ⟨v, q1, _⟩ := h.val j hj (hget j hj)
        rw [k4 j hj, q1, List.getD_eq_getElem?_getD, List.getElem?_map, List.getElem?_range hj]
        simp [q1]
      · have hno : ∀ j, j < n → gDst ops j ≠ t := fun j hj e => ht ⟨j, hj, e⟩
        rw [k3 t hno]
        exact h.oth t (fun j hj _ => hno j hj)
    rw [hea]
    refine hrest _ (by simp) w h.g (fun j hj => ?_)
    obtain ⟨v, q1, q2⟩ := h.val j hj (hget j hj)
    rw [List.getD_eq_getElem?_getD, List.getElem?_map, List.getElem?_range hj]
    simp only [Option.map_some, Option.getD_some, q1]
    exact q2
  · have hfalse : ∀ j, (Array.replicate ops.size false).getD j false = false := by
      intro j
      rw [Array.getD_eq_getD_getElem?, Array.getElem?_replicate]
      split <;> rfl
    refine ⟨by simp, gb_refl _ _, rfl, rfl, fun _ _ => rfl, fun j hj hl => ?_, fun j _ hj => ?_⟩
    · rw [hfalse] at hl
      cases hl
    · rw [getD_tf (by simpa using hj)]
      exact hfalse j
/-! Single operations, from whatever frame. -/
variable {o : Oper} {a : Act} {w : World} {K : Act → World → Prop}
theorem gOp_value {v : Value} (hr : (execOp a.eval o).run P w = .ok (.value v) w) (h : K (a.put o.dst v) w) : o.wp P a w K Q := by
  unfold Oper.wp
  rw [hr]
  exact h
theorem gOp_makes {v : Value} {w' : World} (hr : (execOp a.eval o).run P w = .ok (.value v) w') (h : K (a.put o.dst v) w') : o.wp P a w K Q := by
  unfold Oper.wp
  rw [hr]
  exact h
end
end Go.Proofs.YtihobnheficpjaaGreat
