/- Walks: spec.l4Step, spec.l4Values. · Walks: spec.PlanText. -/
import Derived.Test.YthampfkicnakgaaGreatDoorA23PlanText
import Derived.Test.YthampfkicnakgaaGreatDoorS3Run
import Derived.Deep.LoopGhost
namespace Go.Proofs.YthampfkicnakgaaGreatDoor
open Go.RowKit

def ValOut (w : World) (l : List Int) (e : Ending) (w' : World) : Prop := ∃ v, e = .returned v ∧ RI w' v l ∧ w.grownBy w' none
set_option maxHeartbeats 800000 in
set_option maxRecDepth 20000 in
theorem l4Step_any (v rv : Value) (x : Node) (rows : List (List Int)) (w : World) (h : NV w v x) (hr : RL w rv rows) (hf : x.frm.length ≤ 2) (hin : x.kind ≠ 0 → ∀ y ∈ x.frm, 0 ≤ y ∧ y < rows.length) (_hrl : rows.length ≤ 1000) (hxr : x.row.length ≤ 1000) :
    Calls Tryz.prog 68 #[v, rv] w (ValOut w (stepRow x rows)) := by
  obtain ⟨f, r, rfl, hff, hrr⟩ := h
  obtain ⟨Af, nf, cf, rfl, _, hnf⟩ := hff.form'
  obtain ⟨Ar, nr, cr, rfl⟩ := hrr.val
  obtain ⟨A, n, c, rfl, hnc, hn, hn9⟩ := hr.form'
  have hB := Blk.new w 66 #[.int .i64 x.kind, .slice Af nf cf, .slice Ar nr cr]
  have hga := World.grownBy_alloc w (.cells #[.int .i64 x.kind, .slice Af nf cf, .slice Ar nr cr] 66) none
  rw [← hnf] at hf
  have Hnf := Lib.hid hnf
  have Hn := Lib.hid hn
  have Hin := Lib.hid hin
  clear hnf hn hin hn9
  by_cases hk : x.kind = 0
  · have hT : Hid (stepRow x rows = x.row) := by show _ = _; unfold stepRow; rw [if_pos hk]
    have hb : (x.kind == 0) = true := by simpa using hk
    clear hk
    go_enter Tryz.func68, Tryz.ntmps68
    go_upto_region 1 with fail
    generalize w.alloc (.cells #[.int .i64 x.kind, .slice Af nf cf, .slice Ar nr cr] 66) = wa at hB hga ⊢
    have c0 : wa.cell? ⟨w.heap.size, 0, none⟩ = some (.int .i64 x.kind) := hB.cell 0
    have c2 := ((hB.alloc (.cells #[] 3)).cell 2)
    have hq : QI (wa.alloc (.cells #[] 3)) wa.heap.size (.slice (some ⟨wa.heap.size, 0, none⟩) 0 0) [] := (OwnI.empty wa (Nat.le_refl _)).qi
    have hr4 := (hrr.new hga).alloc (.cells #[] 3)
    have hb4 : wa.heap.size ≤ (wa.alloc (.cells #[] 3)).heap.size := by rw [World.size_alloc]; omega
    have hg4 : w.grownBy (wa.alloc (.cells #[] 3)) none := gb_alloc hga _
    have hs := hga.size
    go_wp2_with (at_builtin; go_must (refine wp_append_ints (.tmp 12) (.tmp 14) rfl rfl hq hr4 (by simp; omega) hb4 rfl rfl ?_))
    intro v5 w5 hq5 hg5 _
    obtain ⟨A5, n5, c5, rfl, -, -⟩ := hq5.slice
    have hg45 : w.grownBy w5 none := gb_new hg4 hg5 (fun g e => by cases e; exact .inl hs)
    go_wp2_with fail
    go_ret
    exact ⟨_, rfl, by rw [hT.out]; exact hq5.ri, hg45⟩
  · have hT : Hid (stepRow x rows = (kindRun x.kind (x.frm.map fun i => rows.getD i.toNat [])).getD []) := by show _ = _; unfold stepRow; rw [if_neg hk]
    have hb : (x.kind == 0) = false := by simpa using hk
    have Hin2 := Lib.hid (Hin.out hk)
    clear hk
    go_enter Tryz.func68, Tryz.ntmps68
    go_upto_region 1 with fail
    generalize w.alloc (.cells #[.int .i64 x.kind, .slice Af nf cf, .slice Ar nr cr] 66) = wa at hB hga ⊢
    have hown0 : OwnL (wa.alloc (.cells #[] 24)) wa.heap.size (.slice (some ⟨wa.heap.size, 0, none⟩) 0 0) [] := OwnL.empty wa (Nat.le_refl _)
    have hs := hga.size
    have c0 : wa.cell? ⟨w.heap.size, 0, none⟩ = some (.int .i64 x.kind) := hB.cell 0
    go_wp2_with fail
    clear c0
    go_loopg [5, 6] (nf + 1) (fun mm out i wr => ∃ k : Nat, k ≤ nf ∧ mm = nf + 1 - k ∧ i = .int .i64 k ∧ OwnL wr wa.heap.size out ((x.frm.map fun i => rows.getD i.toNat []).take k) ∧ wa.grownBy wr none)
    case atStart => exact ⟨0, Nat.zero_le _, rfl, rfl, hown0, gb_alloc (gb_refl wa none) _⟩
    case round =>
      clear hown0
      obtain ⟨k, hk, rfl, rfl, hown, hg⟩ := hrel
      have c0 : wr.cell? ⟨w.heap.size, 0, none⟩ = some (.int .i64 x.kind) := (hB.grown hg (by simp)).cell 0
      have c1 : wr.cell? ⟨w.heap.size, 1, none⟩ = some (.slice Af nf cf) := (hB.grown hg (by simp)).cell 1
      by_cases hlt : k < nf
      · obtain ⟨g, o, y, rfl, hy, hcell⟩ := ((hff.new hga).new hg).at_ hlt
        obtain ⟨hy0, hy1⟩ := Hin2.out y (List.mem_of_getElem? hy)
        obtain ⟨j, rfl⟩ := Int.eq_ofNat_of_zero_le hy0
        have hj : j < n := by have := Hn.out; omega
        obtain ⟨g2, o2, l, B, m, e2, rfl, hl, hcl, hrl2, -, -, -⟩ := ((hr.new hga).new hg).at_ hj
        have Hy : Hid ((x.frm.map fun i => rows.getD i.toNat []).take (k + 1) = (x.frm.map fun i => rows.getD i.toNat []).take k ++ [l]) := by
          show _ = _
          obtain ⟨hy2, hy3⟩ := List.getElem?_eq_some_iff.1 hy
          rw [List.take_succ_eq_append_getElem (by rw [List.length_map]; exact hy2), List.getElem_map, hy3]
          have : rows.getD ((j : Nat) : Int).toNat [] = l := by
            rw [List.getD_eq_getElem?_getD]
            show rows[j]?.getD [] = l
            rw [hl]
            rfl
          rw [this]
        have hll : ((x.frm.map fun i => rows.getD i.toNat []).take k).length ≤ 1000000000 := by rw [List.length_take]; omega
        have hjn : (j : Int) < (n : Int) := by omega
        have hsz9 := hg.size
        clear hy hl hy1
        go_wp2_with (at_builtin; go_must (refine wp_push_list (.tmp 24) (.tmp 33) rfl rfl hown hrl2 hll hsz9 rfl rfl ?_))
        intro v2 w2 hown2 hg2
        have hg3 := hown.gb hg hg2 (Nat.le_refl _)
        go_wp2_with fail
        go_roundg (nf + 1 - (k + 1))
        case measure => omega
        case rel => exact ⟨k + 1, by omega, rfl, by go_num, by rw [Hy.out]; exact hown2, hg3⟩
      · obtain rfl : k = nf := by omega
        rw [List.take_of_length_le (by rw [List.length_map, ← Hnf.out]; exact Nat.le_refl _)] at hown
        obtain ⟨A2, n2, c2, rfl⟩ := hown.rl.val
        go_wp2_with fail
        refine (specKindRun_any x.kind _ _ wr hown.rl).mono ?_
        rintro e w3 ⟨v3, rfl, ho3, hg3⟩
        obtain ⟨A3, n3, c3, rfl⟩ := ho3.ri.val
        go_wp2_with fail
        go_ret
        exact ⟨_, rfl, by rw [hT.out]; exact ho3.ri, gb_trans (gb_trans hga hg) hg3⟩
def ValsOut (w : World) (ll : List (List Int)) (e : Ending) (w' : World) : Prop := ∃ v, e = .returned v ∧ OwnL w' w.heap.size v ll ∧ w.grownBy w' none
set_option maxHeartbeats 800000 in
set_option maxRecDepth 20000 in
theorem l4Values_any (v : Value) (plan : List Node) (w : World) (h : RN w v plan) (hv : planValid plan = true) : Calls Tryz.prog 41 #[v] w (ValsOut w (values plan)) := by
  obtain ⟨A, n, c, rfl, hnc, hn, hn9⟩ := h.form'
  have hl10 := planValid_len hv
  have hn10 : n ≤ 10 := by omega
  have Hv := Lib.hid hv
  have Hn := Lib.hid hn
  have h0 : OwnL (w.alloc (.cells #[] 24)) w.heap.size (.slice (some ⟨w.heap.size, 0, none⟩) 0 0) [] := OwnL.empty w (Nat.le_refl _)
  clear hv hn hn9 hl10
  go_enter Tryz.func41, Tryz.ntmps41
  go_wp2_with fail
  go_loopg [3, 4] (n + 1) (fun mm out i wr => ∃ k : Nat, k ≤ n ∧ mm = n + 1 - k ∧ i = .int .i64 k ∧ OwnL wr w.heap.size out (valuesTo plan k) ∧ w.grownBy wr none)
  case atStart => exact ⟨0, Nat.zero_le _, rfl, rfl, h0, gb_alloc (gb_refl w none) _⟩
  case round =>
    clear h0
    obtain ⟨k, hk, rfl, rfl, hown, hg⟩ := hrel
    by_cases hlt : k < n
    · obtain ⟨g, o, nd, f, r, rfl, hx, c0, c1, c2, hf, hr⟩ := (h.new hg).at_ hlt
      obtain ⟨A2, n2, c2', rfl⟩ := hown.rl.val
      obtain ⟨hfit, hf2, -, -⟩ := planValid_node Hv.out hx
      have Hx := Lib.hid hx
      have Hs : Hid (valuesTo plan (k + 1) = valuesTo plan k ++ [stepRow nd (valuesTo plan k)]) := valuesTo_succ hx
      have Hmem : Hid (nd.kind ≠ 0 → ∀ y ∈ nd.frm, 0 ≤ y ∧ y < (valuesTo plan k).length) := fun _ y hy => by
        rw [valuesTo_len]
        exact nodeFits_mem hfit hy
      have hrow : nd.row.length ≤ 1000 := by
        by_cases hk0 : nd.kind = 0
        · have := rowValid_len ((fits_kind hfit).2.2.2 hk0)
          omega
        · have e : nd.row = [] := by
            unfold nodeFits at hfit
            simp only [Bool.and_eq_true] at hfit
            have h4 := hfit.2
            rw [if_neg hk0] at h4
            exact List.eq_nil_of_length_eq_zero (by simpa using h4)
          rw [e]
          simp
      have hvl : (valuesTo plan k).length ≤ 1000 := by rw [valuesTo_len]; omega
      have hvl2 : (valuesTo plan k).length ≤ 1000000000 := by omega
      have hsz9 := hg.size
      clear hx hfit
      go_wp2_with fail
      refine (l4Step_any _ _ nd (valuesTo plan k) wr ⟨f, r, rfl, hf, hr⟩ hown.rl hf2 Hmem.out hvl hrow).mono ?_
      rintro e w2 ⟨v2, rfl, hv2, hg2⟩
      have hown2 := hown.new hg2
      have hg3 := gb_trans hg hg2
      have hsz8 := hg3.size
      obtain ⟨A3, n3, c3, rfl⟩ := hv2.val
      have hvr := hv2
      clear hown hg hg2
      go_wp2_with (at_builtin; go_must (refine wp_push_list (.tmp 12) (.tmp 19) rfl rfl hown2 hvr hvl2 hsz8 rfl rfl ?_))
      intro v4 w4 hown4 hg4
      have hg5 := hown2.gb hg3 hg4 (Nat.le_refl _)
      go_wp2_with fail
      go_roundg (n + 1 - (k + 1))
      case measure => omega
      case rel => exact ⟨k + 1, by omega, rfl, by go_num, by rw [Hs.out]; exact hown4, hg5⟩
    · obtain rfl : k = n := by omega
      have e : valuesTo plan k = values plan := by unfold values; rw [Hn.out]
      rw [e] at hown
      obtain ⟨A2, n2, c2, rfl⟩ := hown.rl.val
      go_wp2_with fail
      go_ret
      exact ⟨_, rfl, hown, hg⟩
end Go.Proofs.YthampfkicnakgaaGreatDoor
namespace Go.Proofs.YthampfkicnakgaaGreatDoor
open Go.RowKit

set_option maxHeartbeats 2400000 in
set_option maxRecDepth 20000 in
theorem specPlanText_any (v : Value) (plan : List Node) (w : World) (h : RN w v plan) (hl : plan.length ≤ 1000000000) : Calls Tryz.prog 15 #[v] w (StrOut w (planText plan)) := by
  obtain ⟨A, n, c, rfl, hnc, hn, hn9⟩ := h.form'
  by_cases hv : planValid plan = true
  · have hl10 := planValid_len hv
    have hn10 : n ≤ 10 := by omega
    have Hv := Lib.hid hv
    have Hn := Lib.hid hn
    have HT : Hid (planText plan = linesTo plan plan.length) := by show _ = _; unfold planText; rw [if_pos hv]
    clear hv hn hn9 hl10 hl
    go_enter Tryz.func15, Tryz.ntmps15
    go_wp2_with fail
    refine (specPlanValid_b _ plan w h (by have := Hn.out; omega) Hv.out).mono ?_
    rintro e w1 ⟨rfl, hg1⟩
    go_wp2_with fail
    refine (l4Values_any _ plan w1 (h.new hg1) Hv.out).mono ?_
    rintro e w2 ⟨rv, rfl, hown, hg2⟩
    obtain ⟨A2, n2, c2, rfl, hnc2, hn2, -⟩ := hown.rl.form'
    have hn2' : n2 = n := by rw [hn2, values_len]; exact Hn.out.symm
    subst hn2'
    have g2 := gb_trans hg1 hg2
    have hrows := hown.rl
    clear hn2 hown hg1 hg2
    go_wp2_with fail
    go_loopg [4, 5] (n2 + 1) (fun mm out i wr => ∃ k : Nat, k ≤ n2 ∧ mm = n2 + 1 - k ∧ i = .int .i64 k ∧ out = .string (bstr (linesTo plan k)) ∧ w2.grownBy wr none)
    case atStart => exact ⟨0, Nat.zero_le _, rfl, rfl, rfl, gb_refl _ _⟩
    case round =>
      obtain ⟨k, hk, rfl, rfl, rfl, hg⟩ := hrel
      by_cases hlt : k < n2
      · obtain ⟨g, o, nd, f, r, rfl, hx, c0, c1, c2', hf, hr⟩ := (h.new (gb_trans g2 hg)).at_ hlt
        obtain ⟨g3, o3, l, B, m, e3, rfl, hl, hcl, hrl, -, -, -⟩ := (hrows.new hg).at_ hlt
        have hval : l = valAt plan k := by
          rw [valAt_get (by rw [← Hn.out]; exact hlt)] at hl
          injection hl with hl
          exact hl.symm
        subst hval
        have hten := node_ten Hv.out hx
        have hvv := (valAt_valid Hv.out (i := k) (by rw [← Hn.out]; exact hlt)).1
        have Hvv := Lib.hid hvv
        have hll := linesTo_len Hv.out k (by rw [← Hn.out]; omega)
        have hnl := nodeText_len hten
        have hrtl := rowText_len hvv
        have hdl := dec_len (n := k) (by omega)
        have Hs : Hid (linesTo plan (k + 1) = linesTo plan k ++ lineText nd k (valAt plan k)) := linesTo_succ hx
        have hNV : NV wr (.agg #[.int .i64 nd.kind, f, r]) nd := ⟨f, r, rfl, hf, hr⟩
        obtain ⟨Af, nf, cf, rfl⟩ := hf.val
        obtain ⟨Ar, nr, cr, rfl⟩ := hr.val
        generalize hQ : linesTo plan k = Q at hll Hs ⊢
        generalize hT : nodeText nd = T at hnl
        have HTt := Lib.hid hT
        generalize hD : Lib.decDigits k = D at hdl
        have HD := Lib.hid hD
        obtain ⟨X1, hX1⟩ : ∃ X, X = Q ++ D := ⟨_, rfl⟩
        obtain ⟨X2, hX2⟩ : ∃ X, X = X1 ++ [32] := ⟨_, rfl⟩
        obtain ⟨X3, hX3⟩ : ∃ X, X = X2 ++ T := ⟨_, rfl⟩
        have hap1 : bstr Q ++ bstr D = bstr X1 := by rw [hX1]; exact bstr_append _ _
        have hap2 : bstr X1 ++ (⟨#[32]⟩ : ByteArray) = bstr X2 := by rw [hX2]; exact bstr_append _ [32]
        have hap3 : bstr X2 ++ bstr T = bstr X3 := by rw [hX3]; exact bstr_append _ _
        have hl1 : X1.length = Q.length + D.length := by rw [hX1, List.length_append]
        have hl2 : X2.length = X1.length + 1 := by rw [hX2, List.length_append]; rfl
        have hl3 : X3.length = X2.length + T.length := by rw [hX3, List.length_append]
        have hs1 : ¬ (9223372036854775807 < (bstr Q).size + (bstr D).size) := no_long (by omega)
        have hs2 : ¬ (9223372036854775807 < (bstr X1).size + 1) := by rw [bstr_size]; omega
        have hs3 : ¬ (9223372036854775807 < (bstr X2).size + (bstr T).size) := no_long (by omega)
        have HX : Hid (X3 = Q ++ (D ++ ([32] ++ T))) := by
          show _ = _
          rw [hX3, hX2, hX1]
          simp
        have hX3l : X3.length ≤ 7000 := by omega
        clear hX1 hX2 hX3 hl1 hl2 hl3
        have gd := gb_drew (gb_refl wr none)
        clear hx hl hten hvv hT hD hQ
        go_wp2_with fail
        go_region_held3 (fun w' => w'.cell? ⟨g, o + k * 3, none⟩ = some (.int .i64 nd.kind) ∧ w'.cell? ⟨g, o + k * 3 + 1, none⟩ = some (.slice Af nf cf) ∧ w'.cell? ⟨g, o + k * 3 + 2, none⟩ = some (.slice Ar nr cr) ∧ w'.cell? ⟨g3, o3 + k, none⟩ = some (.slice B m e3)) (go_keep)
          (first
            | (go_at_call 42; refine (l6Dec_any k _ k rfl (by omega)).mono ?_; rintro e w3 ⟨rfl, hg3⟩; rw [HD.out]; have z0 := hg3.cell (by exact c0) (by simp); have z1 := hg3.cell (by exact c1) (by simp); have z2 := hg3.cell (by exact c2') (by simp); have z3 := hg3.cell (by exact hcl) (by simp); have hg3' := gb_trans gd hg3)
            | (go_at_call 43; refine (specNodeText_any _ nd w3 (by exact ⟨_, _, rfl, hf.new hg3', hr.new hg3'⟩)).mono ?_; rintro e w4 ⟨rfl, hg4⟩; rw [HTt.out]; have y0 := hg4.cell (by exact z0) (by simp); have y1 := hg4.cell (by exact z1) (by simp); have y2 := hg4.cell (by exact z2) (by simp); have y3 := hg4.cell (by exact z3) (by simp)))
        have hg5 := gb_trans hg (gb_trans hg3' hg4)
        have hvr := hrl.new (gb_trans hg3' hg4)
        clear z0 z1 z2 z3 c0 c1 c2' hcl hs1 hs2 hs3 hap1 hap2 hap3 hg3 hg3' hg4 gd hNV hg hrl hf hr
        by_cases hk0 : nd.kind = 0
        · have hb : (nd.kind != 0) = false := by simpa using hk0
          obtain ⟨X6, hX6⟩ : ∃ X, X = X3 ++ [10] := ⟨_, rfl⟩
          have hap6 : bstr X3 ++ (⟨#[10]⟩ : ByteArray) = bstr X6 := by rw [hX6]; exact bstr_append _ [10]
          have hs6 : ¬ (9223372036854775807 < (bstr X3).size + 1) := by rw [bstr_size]; omega
          have HL : Hid (linesTo plan (k + 1) = X6) := by
            show _ = _
            rw [Hs.out, hX6, HX.out]
            unfold lineText
            rw [if_pos hk0, HTt.out, HD.out]
            simp
          clear hX6 hk0
          go_wp2_with fail
          go_roundg (n2 + 1 - (k + 1))
          case measure => omega
          case rel => exact ⟨k + 1, by omega, rfl, by go_num, by rw [HL.out], hg5⟩
        · have hb : (nd.kind != 0) = true := by simpa using hk0
          generalize hR : rowText (valAt plan k) = R at hrtl
          have HR := Lib.hid hR
          obtain ⟨X4, hX4⟩ : ∃ X, X = X3 ++ [32, 61, 32] := ⟨_, rfl⟩
          obtain ⟨X5, hX5⟩ : ∃ X, X = X4 ++ R := ⟨_, rfl⟩
          obtain ⟨X6, hX6⟩ : ∃ X, X = X5 ++ [10] := ⟨_, rfl⟩
          have hap4 : bstr X3 ++ (⟨#[32, 61, 32]⟩ : ByteArray) = bstr X4 := by rw [hX4]; exact bstr_append _ [32, 61, 32]
          have hap5 : bstr X4 ++ bstr R = bstr X5 := by rw [hX5]; exact bstr_append _ _
          have hap6 : bstr X5 ++ (⟨#[10]⟩ : ByteArray) = bstr X6 := by rw [hX6]; exact bstr_append _ [10]
          have hl4 : X4.length = X3.length + 3 := by rw [hX4, List.length_append]; rfl
          have hl5 : X5.length = X4.length + R.length := by rw [hX5, List.length_append]
          have hs4 : ¬ (9223372036854775807 < (bstr X3).size + 3) := by rw [bstr_size]; omega
          have hs5 : ¬ (9223372036854775807 < (bstr X4).size + (bstr R).size) := no_long (by omega)
          have hs6 : ¬ (9223372036854775807 < (bstr X5).size + 1) := by rw [bstr_size]; omega
          have HL : Hid (linesTo plan (k + 1) = X6) := by
            show _ = _
            rw [Hs.out, hX6, hX5, hX4, HX.out]
            unfold lineText
            rw [if_neg hk0, HTt.out, HD.out, hR]
            simp
          clear hX4 hX5 hX6 hk0 hR hl4 hl5
          go_wp2_with fail
          refine (l41Row_any _ _ w4 hvr Hvv.out).mono ?_
          rintro e w5 ⟨rfl, hg6⟩
          rw [HR.out]
          go_wp2_with fail
          go_roundg (n2 + 1 - (k + 1))
          case measure => omega
          case rel => exact ⟨k + 1, by omega, rfl, by go_num, by rw [HL.out], gb_trans hg5 hg6⟩
      · obtain rfl : k = n2 := by omega
        have hT2 : Hid (planText plan = linesTo plan k) := by show _ = _; rw [HT.out, ← Hn.out]
        generalize linesTo plan k = Q at hT2 ⊢
        go_wp2_with fail
        have hfin : StrOut w (planText plan) (.returned (.string (bstr Q))) wr := by
          refine ⟨?_, gb_trans g2 hg⟩
          rw [hT2.out]
        refine bodyPost_ret (v := .string (bstr Q)) (by simp [results, Tryz.results15, go_sem]) rfl ?_
        exact hfin
  · have hv' : planValid plan = false := by simpa using hv
    have HT : Hid (bstr (planText plan) = ⟨#[]⟩) := by show _ = _; unfold planText; rw [hv']; rfl
    have Hv := Lib.hid hv'
    clear hv hv' hn hn9
    go_enter Tryz.func15, Tryz.ntmps15
    go_wp2_with fail
    refine (specPlanValid_b _ plan w h hl Hv.out).mono ?_
    rintro e w1 ⟨rfl, hg1⟩
    go_wp2_with fail
    go_ret
    exact ⟨by rw [HT.out] <;> rfl, hg1⟩
end Go.Proofs.YthampfkicnakgaaGreatDoor
