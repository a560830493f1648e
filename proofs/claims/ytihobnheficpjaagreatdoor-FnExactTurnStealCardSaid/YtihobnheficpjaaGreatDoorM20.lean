/- Walks: spec.l13At, spec.l13Counts. · Walks: spec.l4Step, spec.l4Values. · Walks: spec.ReadyOf, spec.CrewValid. -/
import Derived.Test.YtihobnheficpjaaGreatDoorM19
import Derived.Test.YtihobnheficpjaaGreatDoorM03
import Derived.Test.YtihobnheficpjaaGreatDoorM06
import Derived.Test.YtihobnheficpjaaGreatDoorM17
import Derived.Test.YtihobnheficpjaaGreatDoorM07
import Derived.Test.YtihobnheficpjaaGreatDoorM18
import Derived.Deep.LoopGhost
namespace Go.Proofs.YtihobnheficpjaaGreatDoor
open Go.RowKit

theorem take_flat {L : List (List Int)} {k : Nat} {d : List Int} (h : L[k]? = some d) : (L.take (k + 1)).flatten = (L.take k).flatten ++ d := by
  obtain ⟨hk, rfl⟩ := List.getElem?_eq_some_iff.1 h
  rw [List.take_succ_eq_append_getElem hk, List.flatten_append]
  simp
theorem count_take {d : List Int} {j : Nat} {y : Int} (x : Int) (h : d[j]? = some y) : (d.take (j + 1)).count x = (d.take j).count x + if y = x then 1 else 0 := by
  obtain ⟨hk, rfl⟩ := List.getElem?_eq_some_iff.1 h
  rw [List.take_succ_eq_append_getElem hk, List.count_append, List.count_singleton]
  by_cases e : d[j] = x
  · simp [e]
  · simp [e]
theorem flat_len {L : List (List Int)} {b : Nat} (h : ∀ d ∈ L, d.length ≤ b) : L.flatten.length ≤ L.length * b := by
  induction L with
  | nil => simp
  | cons d L ih =>
    have h1 := h d (by simp)
    have h2 := ih (fun x hx => h x (by simp [hx]))
    rw [List.flatten_cons, List.length_append, List.length_cons, Nat.add_mul]
    omega
def AtOut (w : World) (n : Nat) (e : Ending) (w' : World) : Prop := ∃ z : Int, e = .returned (.tuple #[.int .i64 (n : Nat), .int .i64 z]) ∧ w.grownBy w' none
set_option maxHeartbeats 800000 in
set_option maxRecDepth 20000 in
theorem l13At_any (v : Value) (c : Crew) (x : Int) (w : World) (h : CV w v c) (hb : c.deques.length ≤ 100) (hb2 : ∀ d ∈ c.deques, d.length ≤ 1048576) :
    Calls Tryz.prog 100 #[v, .int .i64 x] w (AtOut w (c.deques.flatten.count x)) := by
  obtain ⟨A1, n1, c1, A2, n2, c2, A3, n3, c3, A4, n4, c4, rfl, h1, -, -, -⟩ := h.form
  have hX := h.box
  have hgW := World.grownBy_alloc w (.cells #[.slice A1 n1 c1, .slice A2 n2 c2, .slice A3 n3 c3, .slice A4 n4 c4] 27) none
  have hn := h1.len
  have hn100 : n1 ≤ 100 := by omega
  have Hn := Lib.hid hn
  have Hb2 := Lib.hid hb2
  clear hn hb hb2 h1 h
  go_enter Tryz.func100, Tryz.ntmps100
  go_wp2_with fail
  go_loopg [6, 7, 8] (n1 + 1) (fun mm m wk i wr => ∃ (k : Nat) (z : Int), k ≤ n1 ∧ mm = n1 + 1 - k ∧ i = .int .i64 k ∧ m = .int .i64 ((c.deques.take k).flatten.count x : Nat) ∧ wk = .int .i64 z ∧ BoxC wr w.heap.size (.slice A1 n1 c1) (.slice A2 n2 c2) (.slice A3 n3 c3) (.slice A4 n4 c4) c ∧ w.grownBy wr none)
  case atStart => exact ⟨0, -1, Nat.zero_le _, rfl, rfl, rfl, rfl, hX, hgW⟩
  case round =>
    clear hX hgW
    obtain ⟨k, z, hk, rfl, rfl, rfl, rfl, hX, hg⟩ := hrel
    have d0 := hX.d0
    by_cases hlt : k < n1
    · obtain ⟨g, o, d, B, m, e, rfl, hx, c0, hd, hm, -, -⟩ := hX.dq.at_ hlt
      have hdl := Hb2.out d (List.mem_of_getElem? hx)
      have hfl : ((c.deques.take k).flatten.count x) ≤ 104857600 := by
        refine Nat.le_trans List.count_le_length (Nat.le_trans (flat_len (b := 1048576) (fun y hy => Hb2.out y (List.mem_of_mem_take hy))) ?_)
        have : (c.deques.take k).length ≤ 100 := by rw [List.length_take]; omega
        calc (c.deques.take k).length * 1048576 ≤ 100 * 1048576 := Nat.mul_le_mul_right _ this
          _ ≤ 104857600 := by omega
      have Hf : Hid ((c.deques.take (k + 1)).flatten.count x = (c.deques.take k).flatten.count x + d.count x) := by
        show _ = _
        rw [take_flat hx, List.count_append]
      have Hm := Lib.hid hm
      have hml : m ≤ 1048576 := by omega
      generalize (c.deques.take k).flatten.count x = q at hfl Hf ⊢
      clear hx hm hdl
      go_wp2_with fail
      go_loopg [6, 7, 9] (m + 1) (fun mm mq wk i wq => ∃ (j : Nat) (z : Int), j ≤ m ∧ mm = m + 1 - j ∧ i = .int .i64 j ∧ mq = .int .i64 ((q + (d.take j).count x : Nat) : Int) ∧ wk = .int .i64 z ∧ wq = wr)
      case atStart => exact ⟨0, z, Nat.zero_le _, rfl, rfl, by simp, rfl, rfl⟩
      case round =>
        obtain ⟨j, z2, hj, rfl, rfl, rfl, rfl, rfl⟩ := hrel
        by_cases hlj : j < m
        · obtain ⟨g2, o2, y, rfl, hy, e0⟩ := hd.at_ hlj
          have hct := count_take x hy
          have hcl : (d.take j).count x ≤ 1048576 := Nat.le_trans List.count_le_length (by rw [List.length_take]; omega)
          clear hy
          by_cases hyx : y = x
          · have hq : (y == x) = true := by simpa using hyx
            rw [if_pos hyx] at hct
            have Hct := Lib.hid hct
            clear hyx hct
            go_wp2_with fail
            go_roundg (m + 1 - (j + 1))
            case measure => omega
            case rel => exact ⟨j + 1, k, by omega, rfl, by go_num, by rw [Hct.out]; go_num, rfl, rfl⟩
          · have hq : (y == x) = false := by simpa using hyx
            rw [if_neg hyx] at hct
            have Hct := Lib.hid hct
            clear hyx hct
            go_wp2_with fail
            go_roundg (m + 1 - (j + 1))
            case measure => omega
            case rel => exact ⟨j + 1, z2, by omega, rfl, by go_num, by rw [Hct.out]; go_num, rfl, rfl⟩
        · obtain rfl : j = m := by omega
          have Hd : Hid ((d.take j).count x = d.count x) := by
            show _ = _
            rw [List.take_of_length_le (by rw [← Hm.out]; exact Nat.le_refl _)]
          go_wp2_with fail
          go_roundg (n1 + 1 - (k + 1))
          case measure => omega
          case rel => exact ⟨k + 1, z2, by omega, rfl, by go_num, by rw [Hf.out, Hd.out], rfl, hX, hg⟩
    · obtain rfl : k = n1 := by omega
      have Hr : Hid ((c.deques.take k).flatten.count x = c.deques.flatten.count x) := by
        show _ = _
        rw [List.take_of_length_le (by rw [← Hn.out]; exact Nat.le_refl _)]
      go_wp2_with fail
      go_ret2
      exact ⟨z, by rw [Hr.out]; rfl, hg⟩
/-! Counts behind what is done, step by step. -/
theorem countsAfter_take {plan : List Node} {D : List Int} {k : Nat} {x : Int} (h : D[k]? = some x) : countsAfter plan (D.take (k + 1)) = takeCounts plan (countsAfter plan (D.take k)) x := by
  obtain ⟨hk, rfl⟩ := List.getElem?_eq_some_iff.1 h
  unfold countsAfter
  rw [List.take_succ_eq_append_getElem hk, List.foldl_append]
  rfl
theorem countsAfter_len (plan : List Node) (D : List Int) : (countsAfter plan D).length = plan.length := by
  unfold countsAfter
  have : ∀ (D : List Int) (cs : List Int), cs.length = plan.length → (D.foldl (takeCounts plan) cs).length = plan.length := by
    intro D
    induction D with
    | nil => intro cs h; exact h
    | cons x D ih => intro cs h; exact ih _ (by rw [takeCounts_len]; exact h)
  exact this D _ (by unfold countsOf; rw [List.length_map, List.length_range])
theorem lefts_in {plan : List Node} (hv : planValid plan = true) (D : List Int) : ∀ y ∈ lefts plan D, -1000 ≤ y ∧ y ≤ 1000 := by
  intro y hy
  unfold lefts at hy
  obtain ⟨i, hi, rfl⟩ := List.mem_map.1 hy
  have hi := List.mem_range.1 hi
  have h1 := left_le plan D i
  have h2 : (needsOf plan i).length ≤ 2 := by
    rw [needsOf_frm]
    refine Nat.le_trans (dedup_len _) ?_
    rw [frmAt_get (List.getElem?_eq_getElem hi)]
    exact (planValid_node hv (List.getElem?_eq_getElem hi)).2.1
  omega
set_option maxHeartbeats 800000 in
set_option maxRecDepth 20000 in
theorem l13Counts_b (pv v : Value) (plan : List Node) (c : Crew) (w : World) (hp : RN w pv plan) (h : CV w v c) (hv : planValid plan = true) (ho : orderOk plan c.done = true) {b : Bool} (hb : decide (c.counts = countsAfter plan c.done) = b) :
    Calls Tryz.prog 98 #[pv, v] w fun e w' => e = .returned (.bool b) ∧ w.grownBy w' none := by
  obtain ⟨A, n, cp, rfl, -, -, -⟩ := hp.form'
  obtain ⟨A1, n1, c1, A2, n2, c2, A3, n3, c3, A4, n4, c4, rfl, -, h2, h3, -⟩ := h.form
  have hX := h.box
  have hgW := World.grownBy_alloc w (.cells #[.slice A1 n1 c1, .slice A2 n2 c2, .slice A3 n3 c3, .slice A4 n4 c4] 27) none
  have hpW := hp.new hgW
  have hn := h3.len
  have hnb : n3 ≤ 9223372036854775807 := by have := h3.le; omega
  have Hn := Lib.hid hn
  have Hv := Lib.hid hv
  have Ho := Lib.hid ho
  have Hb := Lib.hid hb
  clear hn hb hv ho h2 h3 h hp
  go_enter Tryz.func98, Tryz.ntmps98
  go_wp2_with fail
  refine (l11Counts_any _ plan _ hpW Hv.out).mono ?_
  rintro e w1 ⟨v1, rfl, hown1, hg1⟩
  have hX1 := hX.new hg1
  have hp1 := hpW.new hg1
  have hg := gb_trans hgW hg1
  have hc0 : RI w1 v1 (countsAfter plan (c.done.take 0)) := hown1.ri
  obtain ⟨A5, n5, c5, rfl⟩ := hc0.val
  clear hown1 hg1
  go_wp2_with fail
  go_loopg [5, 6] (n3 + 1) (fun mm cv i wr => ∃ k : Nat, k ≤ n3 ∧ mm = n3 + 1 - k ∧ i = .int .i64 k ∧ RI wr cv (countsAfter plan (c.done.take k)) ∧ w1.grownBy wr none)
  case atStart => exact ⟨0, Nat.zero_le _, rfl, rfl, hc0, gb_refl _ _⟩
  case round =>
    clear hc0
    obtain ⟨k, hk, rfl, rfl, hcv, hgk⟩ := hrel
    have hXk := hX1.new hgk
    have d2 := hXk.d2
    have d1 := hXk.d1
    by_cases hlt : k < n3
    · obtain ⟨g, o, y, rfl, hy, c0⟩ := hXk.dn.at_ hlt
      have hlef : countsAfter plan (c.done.take k) = lefts plan (c.done.take k) := counts_lefts Hv.out Ho.out k (by rw [← Hn.out]; omega)
      have Hs : Hid (countsAfter plan (c.done.take (k + 1)) = takeCounts plan (countsAfter plan (c.done.take k)) y) := countsAfter_take hy
      have Hin : Hid (∀ y ∈ countsAfter plan (c.done.take k), -1000 ≤ y ∧ y ≤ 1000) := by rw [hlef]; exact lefts_in Hv.out _
      clear hy hlef
      go_wp2_with fail
      refine (l11Done_any _ _ plan _ y _ (hp1.new hgk) hcv Hv.out (countsAfter_len _ _) Hin.out).mono ?_
      rintro e w2 ⟨v2, u2, rfl, hc2, hr2, hg2⟩
      rw [← Hs.out] at hc2
      have hg3 := gb_trans hgk hg2
      have hc3 := hc2.ri
      obtain ⟨A6, n6, c6, rfl⟩ := hc3.val
      obtain ⟨A7, n7, c7, rfl⟩ := hr2.ri.val
      clear hc2 hr2
      go_wp2_with fail
      go_roundg (n3 + 1 - (k + 1))
      case measure => omega
      case rel => exact ⟨k + 1, by omega, rfl, by go_num, hc3, hg3⟩
    · obtain rfl : k = n3 := by omega
      have Hr : Hid (decide (countsAfter plan (c.done.take k) = c.counts) = b) := by
        show _ = _
        rw [← Hb.out, List.take_of_length_le (by rw [← Hn.out]; exact Nat.le_refl _), decide_eq_decide]
        exact eq_comm
      obtain ⟨A6, n6, c6, rfl⟩ := hcv.val
      have h2k := hXk.ct
      go_wp2_with fail
      refine (l13Same_b _ _ _ _ _ hcv h2k Hr.out).mono ?_
      rintro e w2 ⟨rfl, hg2⟩
      go_wp2_with fail
      go_ret
      exact ⟨rfl, gb_trans (gb_trans hg hgk) hg2⟩
end Go.Proofs.YtihobnheficpjaaGreatDoor
namespace Go.Proofs.YtihobnheficpjaaGreatDoor
open Go.RowKit

def ValOut (w : World) (l : List Int) (e : Ending) (w' : World) : Prop := ∃ v, e = .returned v ∧ OwnI w' w.heap.size v l ∧ w.grownBy w' none
set_option maxHeartbeats 800000 in
set_option maxRecDepth 20000 in
theorem l4Step_any (v rv : Value) (x : Node) (rows : List (List Int)) (w : World) (h : NV w v x) (hr : RL w rv rows) (hf : x.frm.length ≤ 2) (hin : x.kind ≠ 0 → ∀ y ∈ x.frm, 0 ≤ y ∧ y < rows.length) (_hrl : rows.length ≤ 1000) (hxr : x.row.length ≤ 1000) :
    Calls Tryz.prog 105 #[v, rv] w (ValOut w (stepRow x rows)) := by
  obtain ⟨f, r, rfl, hff, hrr⟩ := h
  obtain ⟨Af, nf, cf, rfl, _, hnf⟩ := hff.form'
  obtain ⟨Ar, nr, cr, rfl⟩ := hrr.val
  obtain ⟨A, n, c, rfl, hnc, hn, hn9⟩ := hr.form'
  have hB := Blk.new w 94 #[.int .i64 x.kind, .slice Af nf cf, .slice Ar nr cr]
  have hga := World.grownBy_alloc w (.cells #[.int .i64 x.kind, .slice Af nf cf, .slice Ar nr cr] 94) none
  rw [← hnf] at hf
  have Hnf := Lib.hid hnf
  have Hn := Lib.hid hn
  have Hin := Lib.hid hin
  clear hnf hn hin hn9
  by_cases hk : x.kind = 0
  · have hT : Hid (stepRow x rows = x.row) := by show _ = _; unfold stepRow; rw [if_pos hk]
    have hb : (x.kind == 0) = true := by simpa using hk
    clear hk
    go_enter Tryz.func105, Tryz.ntmps105
    go_upto_region 1 with fail
    generalize w.alloc (.cells #[.int .i64 x.kind, .slice Af nf cf, .slice Ar nr cr] 94) = wa at hB hga ⊢
    have c0 : wa.cell? ⟨w.heap.size, 0, none⟩ = some (.int .i64 x.kind) := hB.cell 0
    have c2 := ((hB.alloc (.cells #[] 3)).cell 2)
    have hq : OwnI (wa.alloc (.cells #[] 3)) wa.heap.size (.slice (some ⟨wa.heap.size, 0, none⟩) 0 0) [] := OwnI.empty wa (Nat.le_refl _)
    have hr4 := (hrr.new hga).alloc (.cells #[] 3)
    have hb4 : wa.heap.size ≤ (wa.alloc (.cells #[] 3)).heap.size := by rw [World.size_alloc]; omega
    have hg4 : w.grownBy (wa.alloc (.cells #[] 3)) none := gb_alloc hga _
    have hs := hga.size
    go_wp2_with (at_builtin; go_must (refine wp_extend_ints (.tmp 12) (.tmp 14) 25 Tryz.underlying25 rfl rfl hq hr4 (by simp; omega) hb4 rfl rfl ?_))
    intro v5 w5 hq5 hg5
    obtain ⟨A5, n5, c5, rfl⟩ := hq5.ri.val
    have hg45 : w.grownBy w5 none := gb_new hg4 hg5 (fun g e => by cases e; exact .inl hs)
    go_wp2_with fail
    go_ret
    exact ⟨_, rfl, by rw [hT.out]; simpa using hq5.lower hs, hg45⟩
  · have hT : Hid (stepRow x rows = (kindRun x.kind (x.frm.map fun i => rows.getD i.toNat [])).getD []) := by show _ = _; unfold stepRow; rw [if_neg hk]
    have hb : (x.kind == 0) = false := by simpa using hk
    have Hin2 := Lib.hid (Hin.out hk)
    clear hk
    go_enter Tryz.func105, Tryz.ntmps105
    go_upto_region 1 with fail
    generalize w.alloc (.cells #[.int .i64 x.kind, .slice Af nf cf, .slice Ar nr cr] 94) = wa at hB hga ⊢
    have hown0 : OwnL (wa.alloc (.cells #[] 25)) wa.heap.size (.slice (some ⟨wa.heap.size, 0, none⟩) 0 0) [] := OwnL.empty wa (Nat.le_refl _)
    have hs := hga.size
    have c0 : wa.cell? ⟨w.heap.size, 0, none⟩ = some (.int .i64 x.kind) := hB.cell 0
    go_wp2_with fail
    clear c0
    go_loopg [5, 6] (nf + 1) (fun mm out i wr => ∃ k : Nat, k ≤ nf ∧ mm = nf + 1 - k ∧ i = .int .i64 k ∧ OwnL wr wa.heap.size out ((x.frm.map fun i => rows.getD i.toNat []).take k) ∧ wa.grownBy wr none)
    case atStart => exact ⟨0, Nat.zero_le _, rfl, rfl, hown0, gb_alloc (gb_refl wa none) _⟩
    case round =>
      clear hown0
      obtain ⟨k, hk, rfl, rfl, hown, hg⟩ := hrel
      have c0 : wr.cell? ⟨w.heap.size, 0, none⟩ = some (.int .i64 x.kind) := (hB.grown hg (by simp)).cell 0
      have c1 : wr.cell? ⟨w.heap.size, 1, none⟩ = some (.slice Af nf cf) := (hB.grown hg (by simp)).cell 1
      by_cases hlt : k < nf
      · obtain ⟨g, o, y, rfl, hy, hcell⟩ := ((hff.new hga).new hg).at_ hlt
        obtain ⟨hy0, hy1⟩ := Hin2.out y (List.mem_of_getElem? hy)
        obtain ⟨j, rfl⟩ := Int.eq_ofNat_of_zero_le hy0
        have hj : j < n := by have := Hn.out; omega
        obtain ⟨g2, o2, l, B, m, e2, rfl, hl, hcl, hrl2, -, -, -⟩ := ((hr.new hga).new hg).at_ hj
        have Hy : Hid ((x.frm.map fun i => rows.getD i.toNat []).take (k + 1) = (x.frm.map fun i => rows.getD i.toNat []).take k ++ [l]) := by
          show _ = _
          obtain ⟨hy2, hy3⟩ := List.getElem?_eq_some_iff.1 hy
          rw [List.take_succ_eq_append_getElem (by rw [List.length_map]; exact hy2), List.getElem_map, hy3]
          have : rows.getD ((j : Nat) : Int).toNat [] = l := by
            rw [List.getD_eq_getElem?_getD]
            show rows[j]?.getD [] = l
            rw [hl]
            rfl
          rw [this]
        have hll : ((x.frm.map fun i => rows.getD i.toNat []).take k).length ≤ 1000000000 := by rw [List.length_take]; omega
        have hjn : (j : Int) < (n : Int) := by omega
        have hsz9 := hg.size
        clear hy hl hy1
        go_wp2_with (at_builtin; go_must (refine wp_push_list (.tmp 24) (.tmp 33) rfl rfl hown hrl2 hll hsz9 rfl rfl ?_))
        intro v2 w2 hown2 hg2
        have hg3 := hown.gb hg hg2 (Nat.le_refl _)
        go_wp2_with fail
        go_roundg (nf + 1 - (k + 1))
        case measure => omega
        case rel => exact ⟨k + 1, by omega, rfl, by go_num, by rw [Hy.out]; exact hown2, hg3⟩
      · obtain rfl : k = nf := by omega
        rw [List.take_of_length_le (by rw [List.length_map, ← Hnf.out]; exact Nat.le_refl _)] at hown
        obtain ⟨A2, n2, c2, rfl⟩ := hown.rl.val
        go_wp2_with fail
        refine (specKindRun_any x.kind _ _ wr hown.rl).mono ?_
        rintro e w3 ⟨v3, rfl, ho3, hg3⟩
        obtain ⟨A3, n3, c3, rfl⟩ := ho3.ri.val
        go_wp2_with fail
        go_ret
        exact ⟨_, rfl, by rw [hT.out]; exact ho3.lower (gb_trans hga hg).size, gb_trans (gb_trans hga hg) hg3⟩
def ValsOut (w : World) (ll : List (List Int)) (e : Ending) (w' : World) : Prop := ∃ v, e = .returned v ∧ OwnL w' w.heap.size v ll ∧ w.grownBy w' none
set_option maxHeartbeats 800000 in
set_option maxRecDepth 20000 in
theorem l4Values_any (v : Value) (plan : List Node) (w : World) (h : RN w v plan) (hv : planValid plan = true) : Calls Tryz.prog 101 #[v] w (ValsOut w (values plan)) := by
  obtain ⟨A, n, c, rfl, hnc, hn, hn9⟩ := h.form'
  have hl10 := planValid_len hv
  have hn10 : n ≤ 10 := by omega
  have Hv := Lib.hid hv
  have Hn := Lib.hid hn
  have h0 : OwnL (w.alloc (.cells #[] 25)) w.heap.size (.slice (some ⟨w.heap.size, 0, none⟩) 0 0) [] := OwnL.empty w (Nat.le_refl _)
  clear hv hn hn9 hl10
  go_enter Tryz.func101, Tryz.ntmps101
  go_wp2_with fail
  go_loopg [3, 4] (n + 1) (fun mm out i wr => ∃ k : Nat, k ≤ n ∧ mm = n + 1 - k ∧ i = .int .i64 k ∧ OwnL wr w.heap.size out (valuesTo plan k) ∧ w.grownBy wr none)
  case atStart => exact ⟨0, Nat.zero_le _, rfl, rfl, h0, gb_alloc (gb_refl w none) _⟩
  case round =>
    clear h0
    obtain ⟨k, hk, rfl, rfl, hown, hg⟩ := hrel
    by_cases hlt : k < n
    · obtain ⟨g, o, nd, f, r, rfl, hx, c0, c1, c2, hf, hr⟩ := (h.new hg).at_ hlt
      obtain ⟨A2, n2, c2', rfl⟩ := hown.rl.val
      obtain ⟨hfit, hf2, -, -⟩ := planValid_node Hv.out hx
      have Hx := Lib.hid hx
      have Hs : Hid (valuesTo plan (k + 1) = valuesTo plan k ++ [stepRow nd (valuesTo plan k)]) := valuesTo_succ hx
      have Hmem : Hid (nd.kind ≠ 0 → ∀ y ∈ nd.frm, 0 ≤ y ∧ y < (valuesTo plan k).length) := fun _ y hy => by
        rw [valuesTo_len]
        exact nodeFits_mem hfit hy
      have hrow : nd.row.length ≤ 1000 := by
        by_cases hk0 : nd.kind = 0
        · have := rowValid_len ((fits_kind hfit).2.2.2 hk0)
          omega
        · have e : nd.row = [] := by
            unfold nodeFits at hfit
            simp only [Bool.and_eq_true] at hfit
            have h4 := hfit.2
            rw [if_neg hk0] at h4
            exact List.eq_nil_of_length_eq_zero (by simpa using h4)
          rw [e]
          simp
      have hvl : (valuesTo plan k).length ≤ 1000 := by rw [valuesTo_len]; omega
      have hvl2 : (valuesTo plan k).length ≤ 1000000000 := by omega
      have hsz9 := hg.size
      clear hx hfit
      go_wp2_with fail
      refine (l4Step_any _ _ nd (valuesTo plan k) wr ⟨f, r, rfl, hf, hr⟩ hown.rl hf2 Hmem.out hvl hrow).mono ?_
      rintro e w2 ⟨v2, rfl, hv2o, hg2⟩
      have hv2 := hv2o.ri
      have hown2 := hown.new hg2
      have hg3 := gb_trans hg hg2
      have hsz8 := hg3.size
      obtain ⟨A3, n3, c3, rfl⟩ := hv2.val
      have hvr := hv2
      clear hown hg hg2
      go_wp2_with (at_builtin; go_must (refine wp_push_list (.tmp 12) (.tmp 19) rfl rfl hown2 hvr hvl2 hsz8 rfl rfl ?_))
      intro v4 w4 hown4 hg4
      have hg5 := hown2.gb hg3 hg4 (Nat.le_refl _)
      go_wp2_with fail
      go_roundg (n + 1 - (k + 1))
      case measure => omega
      case rel => exact ⟨k + 1, by omega, rfl, by go_num, by rw [Hs.out]; exact hown4, hg5⟩
    · obtain rfl : k = n := by omega
      have e : valuesTo plan k = values plan := by unfold values; rw [Hn.out]
      rw [e] at hown
      obtain ⟨A2, n2, c2, rfl⟩ := hown.rl.val
      go_wp2_with fail
      go_ret
      exact ⟨_, rfl, hown, hg⟩
end Go.Proofs.YtihobnheficpjaaGreatDoor
namespace Go.Proofs.YtihobnheficpjaaGreatDoor
open Go.RowKit

set_option maxHeartbeats 800000 in
set_option maxRecDepth 20000 in
theorem specReadyOf_any (v dv : Value) (plan : List Node) (done : List Int) (w : World) (h : RN w v plan) (hd : RI w dv done) (hv : planValid plan = true) :
    Calls Tryz.prog 99 #[v, dv] w (IntsOut w (readyOf plan done)) := by
  obtain ⟨A, n, c, rfl, -, hn, -⟩ := h.form'
  have hn10 : n ≤ 10 := by have := planValid_len hv; omega
  have Hn := Lib.hid hn
  have Hv := Lib.hid hv
  obtain ⟨Ad, m, cd, rfl⟩ := hd.val
  have h0 : OwnI (w.alloc (.cells #[] 3)) w.heap.size (.slice (some ⟨w.heap.size, 0, none⟩) 0 0) [] := OwnI.empty w (Nat.le_refl _)
  clear hn hv
  go_enter Tryz.func99, Tryz.ntmps99
  go_wp2_with fail
  go_loopg [5, 6] (n + 1) (fun mm out i wr => ∃ k : Nat, k ≤ n ∧ mm = n + 1 - k ∧ i = .int .i64 k ∧ OwnI wr w.heap.size out (readyTo plan done k) ∧ w.grownBy wr none)
  case atStart => exact ⟨0, Nat.zero_le _, rfl, rfl, h0, gb_alloc (gb_refl w none) _⟩
  case round =>
    clear h0
    obtain ⟨k, hk, rfl, rfl, hown, hg⟩ := hrel
    by_cases hlt : k < n
    · obtain ⟨g, o, nd, f, r, rfl, hx, c0, c1, c2, hf, hr⟩ := (h.new hg).at_ hlt
      obtain ⟨Af, nf, cf, rfl⟩ := hf.val
      have hpl : plan.length ≤ 1000000000 := by have := Hn.out; omega
      have hs := readyTo_succ done hx
      have hol := readyTo_len plan done k
      clear hx c0 c2 hr
      by_cases hD : (k : Int) ∈ done
      · have HD : Hid (decide ((k : Int) ∈ done) = true) := decide_eq_true hD
        have Hs : Hid (readyTo plan done (k + 1) = readyTo plan done k) := by
          show _ = _
          rw [hs, if_neg (by unfold readyNode; simp [hD])]
        obtain ⟨A2, n2, c2, rfl⟩ := hown.ri.val
        clear hD hs
        go_wp2_with fail
        refine (specPlanValid_b _ plan _ (h.new hg) hpl Hv.out).mono ?_
        rintro e w1 ⟨rfl, hg1⟩
        have hd1 := (hd.new hg).new hg1
        go_wp2_with fail
        refine (l3Has_b _ _ _ _ hd1 HD.out).mono ?_
        rintro e w2 ⟨rfl, rfl⟩
        go_wp2_with fail
        go_roundg (n + 1 - (k + 1))
        case measure => omega
        case rel => exact ⟨k + 1, by omega, rfl, by go_num, by rw [Hs.out]; exact hown.new hg1, gb_trans hg hg1⟩
      · have HD : Hid (decide ((k : Int) ∈ done) = false) := decide_eq_false hD
        by_cases ha : nd.frm.all (fun x => decide (x ∈ done)) = true
        · have Ha := Lib.hid ha
          have Hs : Hid (readyTo plan done (k + 1) = readyTo plan done k ++ [(k : Int)]) := by
            show _ = _
            rw [hs, if_pos (by unfold readyNode; simp only [decide_eq_false hD, ha]; rfl)]
          obtain ⟨A2, n2, c2, rfl⟩ := hown.ri.val
          clear hD hs ha
          go_wp2_with fail
          refine (specPlanValid_b _ plan _ (h.new hg) hpl Hv.out).mono ?_
          rintro e w1 ⟨rfl, hg1⟩
          have hd1 := (hd.new hg).new hg1
          have hf1 := hf.new hg1
          have c1' : w1.cell? ⟨g, o + k * 3 + 1, none⟩ = some (.slice Af nf cf) := by
            rw [← c1]
            exact gb_cell hg1 (cell_lt c1) (by simp)
          have hown1 := hown.new hg1
          have hg2 := gb_trans hg hg1
          go_wp2_with fail
          refine (l3Has_b _ _ _ _ hd1 HD.out).mono ?_
          rintro e w2 ⟨rfl, rfl⟩
          go_wp2_with fail
          refine (l5All_b _ _ _ nd.frm _ hd1 hf1 Ha.out).mono ?_
          rintro e w2 ⟨rfl, rfl⟩
          go_wp2_with (at_builtin; go_must (refine wp_push_int _ _ rfl rfl hown1 (by omega) hg2.size rfl rfl ?_))
          intro v3 w3 hown3 hg3
          have hg4 := hown1.gb hg2 hg3 (Nat.le_refl _)
          rw [← Hs.out] at hown3
          obtain ⟨A3, n3, c3, rfl⟩ := hown3.ri.val
          go_wp2_with fail
          go_roundg (n + 1 - (k + 1))
          case measure => omega
          case rel => exact ⟨k + 1, by omega, rfl, by go_num, hown3, hg4⟩
        · have ha' : nd.frm.all (fun x => decide (x ∈ done)) = false := by simpa using ha
          have Ha := Lib.hid ha'
          have Hs : Hid (readyTo plan done (k + 1) = readyTo plan done k) := by
            show _ = _
            rw [hs, if_neg (by unfold readyNode; simp only [decide_eq_false hD, ha']; simp)]
          obtain ⟨A2, n2, c2, rfl⟩ := hown.ri.val
          clear hD hs ha ha'
          go_wp2_with fail
          refine (specPlanValid_b _ plan _ (h.new hg) hpl Hv.out).mono ?_
          rintro e w1 ⟨rfl, hg1⟩
          have hd1 := (hd.new hg).new hg1
          have hf1 := hf.new hg1
          have c1' : w1.cell? ⟨g, o + k * 3 + 1, none⟩ = some (.slice Af nf cf) := by
            rw [← c1]
            exact gb_cell hg1 (cell_lt c1) (by simp)
          go_wp2_with fail
          refine (l3Has_b _ _ _ _ hd1 HD.out).mono ?_
          rintro e w2 ⟨rfl, rfl⟩
          go_wp2_with fail
          refine (l5All_b _ _ _ nd.frm _ hd1 hf1 Ha.out).mono ?_
          rintro e w2 ⟨rfl, rfl⟩
          go_wp2_with fail
          go_roundg (n + 1 - (k + 1))
          case measure => omega
          case rel => exact ⟨k + 1, by omega, rfl, by go_num, by rw [Hs.out]; exact hown.new hg1, gb_trans hg hg1⟩
    · obtain rfl : k = n := by omega
      obtain ⟨A2, n2, c2, rfl⟩ := hown.ri.val
      have ho2 : OwnI wr w.heap.size (.slice A2 n2 c2) (readyOf plan done) := by
        unfold readyOf
        rw [if_pos Hv.out, ← Hn.out]
        exact hown
      clear hown
      go_wp2_with fail
      go_ret
      exact ⟨_, rfl, ho2, hg⟩
theorem crewValid_no {plan : List Node} {c : Crew} {b : Bool} (hb : crewValid plan c = b) (h : ¬ CrewOk plan c) : b = false := by
  rw [← hb]
  rcases Bool.eq_false_or_eq_true (crewValid plan c) with e | e
  · exact absurd (crewValid_iff.1 e) h
  · exact e
/-- What is known of a crew ahead of the loops of CrewValid. -/
structure CrewPre (plan : List Node) (c : Crew) : Prop where
  pv : planValid plan = true
  d1 : 1 ≤ c.deques.length
  d4 : c.deques.length ≤ 4
  order : orderOk plan c.done = true
  counts : c.counts = countsAfter plan c.done
  rl : c.rows.length = plan.length
theorem CrewPre.valid {plan : List Node} {c : Crew} (h : CrewPre plan c) : crewValid plan c = (dequesOk plan c && rowsOk plan c) := by
  unfold crewValid
  rw [h.pv, decide_eq_true h.d1, decide_eq_true h.d4, h.order, decide_eq_true h.counts, decide_eq_true h.rl]
  simp
/-- The loops of CrewValid. -/
def onceTo (plan : List Node) (c : Crew) (k : Nat) : Prop := ∀ x ∈ (readyOf plan c.done).take k, c.deques.flatten.count x = 1
def rowsTo (plan : List Node) (c : Crew) (k : Nat) : Prop := ∀ i, i < k → c.rows.getD i [] = rowWant plan c.done i
theorem onceTo_succ {plan : List Node} {c : Crew} {k : Nat} {x : Int} (h : onceTo plan c k) (hx : (readyOf plan c.done)[k]? = some x) (h1 : c.deques.flatten.count x = 1) : onceTo plan c (k + 1) := by
  obtain ⟨hk, rfl⟩ := List.getElem?_eq_some_iff.1 hx
  unfold onceTo
  rw [List.take_succ_eq_append_getElem hk]
  intro y hy
  rcases List.mem_append.1 hy with hy | hy
  · exact h y hy
  · obtain rfl : y = (readyOf plan c.done)[k] := by simpa using hy
    exact h1
theorem dequesOk_not {plan : List Node} {c : Crew} {k : Nat} {x : Int} (hx : (readyOf plan c.done)[k]? = some x) (h1 : ¬ c.deques.flatten.count x = 1) : dequesOk plan c = false := by
  unfold dequesOk
  rw [Bool.and_eq_false_iff]
  right
  rw [List.all_eq_false]
  exact ⟨x, List.mem_of_getElem? hx, by simpa using h1⟩
theorem dequesOk_size {plan : List Node} {c : Crew} (h : onceTo plan c (readyOf plan c.done).length) : dequesOk plan c = decide (c.deques.flatten.length = (readyOf plan c.done).length) := by
  unfold onceTo at h
  rw [List.take_length] at h
  unfold dequesOk
  rw [Bool.and_eq_left_iff_imp.2]
  intro _
  rw [List.all_eq_true]
  exact fun x hx => decide_eq_true (h x hx)
theorem rowsTo_succ {plan : List Node} {c : Crew} {k : Nat} {r : List Int} (h : rowsTo plan c k) (hr : c.rows[k]? = some r) (h1 : rowWant plan c.done k = r) : rowsTo plan c (k + 1) := by
  intro i hi
  by_cases e : i = k
  · subst e
    rw [List.getD_eq_getElem?_getD, hr, h1]
    rfl
  · exact h i (by omega)
theorem rowsOk_not {plan : List Node} {c : Crew} {k : Nat} {r : List Int} (hk : k < plan.length) (hr : c.rows[k]? = some r) (h1 : ¬ rowWant plan c.done k = r) : rowsOk plan c = false := by
  unfold rowsOk
  rw [List.all_eq_false]
  refine ⟨k, List.mem_range.2 hk, ?_⟩
  rw [List.getD_eq_getElem?_getD, hr]
  simpa using fun e => h1 e.symm
theorem rowsOk_all {plan : List Node} {c : Crew} (h : rowsTo plan c plan.length) : rowsOk plan c = true := by
  unfold rowsOk
  rw [List.all_eq_true]
  exact fun i hi => decide_eq_true (h i (List.mem_range.1 hi))
set_option maxHeartbeats 1600000 in
set_option maxRecDepth 20000 in
theorem specCrewValid_b (pv v : Value) (plan : List Node) (c : Crew) (w : World) (hp : RN w pv plan) (h : CV w v c) (hpl : plan.length ≤ 1000000000) (hfit : ∀ d ∈ c.deques, d.length ≤ 1048576) {b : Bool} (hb : crewValid plan c = b) :
    Calls Tryz.prog 52 #[pv, v] w fun e w' => e = .returned (.bool b) ∧ w.grownBy w' none := by
  obtain ⟨A, n, cp, rfl, -, hn, -⟩ := hp.form'
  obtain ⟨A1, n1, c1, A2, n2, c2, A3, n3, c3, A4, n4, c4, rfl, h1, -, -, h4⟩ := h.form
  have hX := h.box
  have hn1 := h1.len
  have hn4 := h4.len
  have hgW := World.grownBy_alloc w (.cells #[.slice A1 n1 c1, .slice A2 n2 c2, .slice A3 n3 c3, .slice A4 n4 c4] 27) none
  have hpW := hp.new hgW
  have Hn := Lib.hid hn
  have Hn1 := Lib.hid hn1
  have Hn4 := Lib.hid hn4
  have Hb := Lib.hid hb
  have Hfit := Lib.hid hfit
  clear hn hn1 hn4 hb hfit h1 h4 h hp
  have d0 := hX.d0
  by_cases hv : planValid plan = true
  · have Hv := Lib.hid hv
    have hn10 : n ≤ 10 := by have := planValid_len hv; have := Hn.out; omega
    by_cases hin : 1 ≤ n1 ∧ n1 ≤ 4
    · have Hin : Hid ((decide ((1 : Int) ≤ (n1 : Int)) && decide ((n1 : Int) ≤ 4)) = true) := by
        show _ = _
        rw [Bool.and_eq_true, decide_eq_true_eq, decide_eq_true_eq]
        omega
      by_cases ho : orderOk plan c.done = true
      · have Ho := Lib.hid ho
        by_cases hc : c.counts = countsAfter plan c.done
        · have Hc : Hid (decide (c.counts = countsAfter plan c.done) = true) := decide_eq_true hc
          by_cases hr : n4 = n
          · have Pre : Hid (CrewPre plan c) := ⟨hv, by have := Hn1.out; omega, by have := Hn1.out; omega, ho, hc, by rw [← Hn4.out, ← Hn.out]; exact hr⟩
            have hne : ((n4 : Int) != (n : Int)) = false := by simp [hr]
            have hn14 : n1 ≤ 4 := hin.2
            clear hv hin ho hc hr
            go_enter Tryz.func52, Tryz.ntmps52
            go_wp2_with fail
            refine (specPlanValid_b _ plan _ hpW hpl Hv.out).mono ?_
            rintro e w1 ⟨rfl, hg1⟩
            have g1 := gb_trans hgW hg1
            have hp1 := hpW.new hg1
            have hX1 := hX.new hg1
            have d0 := hX1.d0
            have d2 := hX1.d2
            go_wp2_with fail
            refine (l6In_b _ _ _ _ Hin.out).mono ?_
            rintro e w2 ⟨rfl, rfl⟩
            go_wp2_with fail
            refine (l13Order_b _ _ plan c.done _ hp1 hX1.dn hpl Ho.out).mono ?_
            rintro e w2 ⟨rfl, hg2⟩
            replace g1 := gb_trans g1 hg2
            replace hp1 := hp1.new hg2
            replace hX1 := hX1.new hg2
            clear d0 d2
            have d0 := hX1.d0
            have d2 := hX1.d2
            have d1 := hX1.d1
            have d3 := hX1.d3
            go_wp2_with fail
            refine (l13Counts_b _ _ plan c _ hp1 hX1.cv Hv.out Ho.out Hc.out).mono ?_
            rintro e w3 ⟨rfl, hg3⟩
            have g3 := gb_trans g1 hg3
            have hp3 := hp1.new hg3
            have hX3 := hX1.new hg3
            clear g1 hp1 hX1 d0 d1 d2 d3 hX hpW hgW hg1 hg3
            have d0 := hX3.d0
            have d1 := hX3.d1
            have d2 := hX3.d2
            have d3 := hX3.d3
            go_wp2_with fail
            go_loopg [5, 6] (n1 + 1) (fun mm sz i wr => ∃ k : Nat, k ≤ n1 ∧ mm = n1 + 1 - k ∧ i = .int .i64 k ∧ sz = .int .i64 ((c.deques.take k).flatten.length : Nat) ∧ wr = w3)
            case atStart => exact ⟨0, Nat.zero_le _, rfl, rfl, rfl, rfl⟩
            case round =>
              obtain ⟨k, hk, rfl, rfl, rfl, rfl⟩ := hrel
              by_cases hlt : k < n1
              · obtain ⟨g, o, d, B, m, e, rfl, hx, c0, hd, hm, -, -⟩ := hX3.dq.at_ hlt
                have hdl := Hfit.out d (List.mem_of_getElem? hx)
                have hml : m ≤ 1048576 := by omega
                have hfl : (c.deques.take k).flatten.length ≤ 4194304 := by
                  refine Nat.le_trans (flat_len (b := 1048576) (fun y hy => Hfit.out y (List.mem_of_mem_take hy))) ?_
                  have : (c.deques.take k).length ≤ 4 := by rw [List.length_take]; have := Pre.out.d4; omega
                  calc (c.deques.take k).length * 1048576 ≤ 4 * 1048576 := Nat.mul_le_mul_right _ this
                    _ ≤ 4194304 := by omega
                have Hf : Hid ((c.deques.take (k + 1)).flatten.length = (c.deques.take k).flatten.length + m) := by
                  show _ = _
                  rw [take_flat hx, List.length_append, hm]
                generalize (c.deques.take k).flatten.length = q at hfl Hf ⊢
                clear hx hm hdl
                go_wp2_with fail
                go_roundg (n1 + 1 - (k + 1))
                case measure => omega
                case rel => exact ⟨k + 1, by omega, rfl, by go_num, by rw [Hf.out]; go_num, rfl⟩
              · obtain rfl : n1 = k := by omega
                have Hr : Hid ((c.deques.take n1).flatten.length = c.deques.flatten.length) := by
                  show _ = _
                  rw [List.take_of_length_le (by rw [← Hn1.out]; exact Nat.le_refl _)]
                rw [Hr.out]
                generalize hq : c.deques.flatten.length = q
                have Hq := Lib.hid hq
                clear hq
                go_wp2_with fail
                refine (specReadyOf_any _ _ plan c.done _ hp3 hX3.dn Hv.out).mono ?_
                rintro e w5 ⟨v5, rfl, hown5, hg5⟩
                have g5 := gb_trans g3 hg5
                have hp5 := hp3.new hg5
                have hX5 := hX3.new hg5
                have hr5 := hown5.ri
                obtain ⟨A5, nr, c5, rfl⟩ := hr5.val
                have hnr := hr5.len
                have Hnr := Lib.hid hnr
                have hnr10 : nr ≤ 10 := by rw [hnr]; have := readyOf_len plan c.done; have := planValid_len Hv.out; omega
                clear hnr hown5 hg5 hp3 hX3 g3 d0 d1 d2 d3
                go_wp2_with fail
                go_loopg [8] (nr + 1) (fun mm i wr => ∃ k : Nat, k ≤ nr ∧ mm = nr + 1 - k ∧ i = .int .i64 k ∧ Hid (onceTo plan c k) ∧ w5.grownBy wr none)
                case atStart => exact ⟨0, Nat.zero_le _, rfl, rfl, by show ∀ x ∈ _, _; simp, gb_refl _ _⟩
                case round =>
                  obtain ⟨k, hk, rfl, rfl, Hk, hgk⟩ := hrel
                  by_cases hlt : k < nr
                  · obtain ⟨g, o, x, rfl, hx, c0⟩ := (hr5.new hgk).at_ hlt
                    have Hx := Lib.hid hx
                    have hXk := hX5.new hgk
                    have d0 := hXk.d0
                    have d1 := hXk.d1
                    have d2 := hXk.d2
                    have d3 := hXk.d3
                    have hdl : c.deques.length ≤ 100 := by have := Pre.out.d4; omega
                    clear hx
                    by_cases h1 : c.deques.flatten.count x = 1
                    · have Hs : Hid (onceTo plan c (k + 1)) := onceTo_succ Hk.out Hx.out h1
                      clear Hk
                      have hXd : BoxC wr.drew w.heap.size (.slice A1 n1 c1) (.slice A2 n2 c2) (.slice A3 n3 c3) (.slice A4 n4 c4) c := hXk.new (gb_drew (gb_refl _ none))
                      go_wp2_with fail
                      go_region_law (go_simp; go_at_call 100; refine (l13At_any _ c x _ (by exact hXd.cv) hdl Hfit.out).mono ?_; rintro e w6 ⟨z, rfl, hg6⟩; rw [h1])
                      all_goals
                        have hg7 := gb_trans (gb_drew hgk) hg6
                        clear h1 hXk hXd d0 d1 d2 d3
                        go_wp2_with fail
                        go_roundg (nr + 1 - (k + 1))
                        case measure => omega
                        case rel => exact ⟨k + 1, by omega, rfl, by go_num, Hs, hg7⟩
                    · have Hr : Hid (b = false) := by
                        show _ = _
                        rw [← Hb.out, Pre.out.valid, dequesOk_not Hx.out h1]
                        rfl
                      have h1' : (((c.deques.flatten.count x : Nat) : Int) != 1) = true := by simp; omega
                      clear Hk
                      have hXd : BoxC wr.drew w.heap.size (.slice A1 n1 c1) (.slice A2 n2 c2) (.slice A3 n3 c3) (.slice A4 n4 c4) c := hXk.new (gb_drew (gb_refl _ none))
                      have hAt : ∀ v' w', CV w' v' c → Calls Tryz.prog 100 #[v', .int .i64 x] w' (AtOut w' (c.deques.flatten.count x)) := fun v' w' hcv => l13At_any v' c x w' hcv hdl Hfit.out
                      have HAt := Lib.hid hAt
                      generalize c.deques.flatten.count x = y at h1' HAt
                      clear h1 hAt
                      go_wp2_with fail
                      go_region_law (go_simp; go_at_call 100; refine (HAt.out _ _ (by exact hXd.cv)).mono ?_; rintro e w6 ⟨z, rfl, hg6⟩)
                      all_goals
                        go_wp2_with fail
                        go_ret
                        exact ⟨by rw [Hr.out]; rfl, gb_trans g5 (gb_trans (gb_drew hgk) hg6)⟩
                  · obtain rfl : nr = k := by omega
                    have hD : dequesOk plan c = decide (c.deques.flatten.length = (readyOf plan c.done).length) := by
                      have := Hk.out
                      rw [Hnr.out] at this
                      exact dequesOk_size this
                    have HD := Lib.hid hD
                    have hp7 := hp5.new hgk
                    have hX7 := hX5.new hgk
                    have g7 := gb_trans g5 hgk
                    clear Hk hD hp5 hX5 g5 hgk
                    obtain ⟨w7, rfl⟩ : ∃ w7 : World, w7 = wr := ⟨_, rfl⟩
                    go_wp2_with fail
                    refine (l4Values_any _ plan _ hp7 Hv.out).mono ?_
                    rintro e w8 ⟨v8, rfl, hown8, hg8⟩
                    have g8 := gb_trans g7 hg8
                    have hX8 := hX7.new hg8
                    have hr8 := hown8.rl
                    obtain ⟨A8, n8, c8, rfl⟩ := hr8.val
                    have hn8 := hr8.len
                    have hn8' : n8 = n := by rw [hn8, values_len, Hn.out]
                    clear hown8 hg8 hp7 hX7 g7 hn8
                    subst hn8'
                    go_wp2_with fail
                    go_loopg [12] (n8 + 1) (fun mm i wr => ∃ k : Nat, k ≤ n8 ∧ mm = n8 + 1 - k ∧ i = .int .i64 k ∧ Hid (rowsTo plan c k) ∧ w8.grownBy wr none)
                    case atStart => exact ⟨0, Nat.zero_le _, rfl, rfl, fun i hi => absurd hi (Nat.not_lt_zero _), gb_refl _ _⟩
                    case round =>
                      obtain ⟨k, hk, rfl, rfl, Hk, hgk⟩ := hrel
                      have hga := gb_alloc hgk (.cells #[] 3)
                      have hXk := hX8.new hga
                      have hrk := hr8.new hga
                      have hE : RI (wr.alloc (.cells #[] 3)) (.slice (some ⟨wr.heap.size, 0, none⟩) 0 0) [] := (OwnI.empty wr (Nat.le_refl _)).ri
                      generalize hWa : wr.alloc (.cells #[] 3) = wa at hga hXk hrk hE
                      have d2 := hXk.d2
                      have d3 := hXk.d3
                      by_cases hlt : k < n8
                      · have hlt4 : k < n4 := by have h1 := Hn4.out; have h2 := Pre.out.rl; have h3 := Hn.out; omega
                        obtain ⟨g, o, l, B, m, e, rfl, hx, c0, hl, -, -, -⟩ := hrk.at_ hlt
                        obtain ⟨g', o', l', B', m', e', rfl, hx', c0', hl', -, -, -⟩ := hXk.ro.at_ hlt4
                        have hkp : k < plan.length := by rw [← Hn.out]; exact hlt
                        have hval : l = valAt plan k := by
                          have := valAt_get hkp
                          rw [hx] at this
                          injection this
                        have Hx' := Lib.hid hx'
                        have Hkp := Lib.hid hkp
                        clear hx hx' hkp
                        by_cases hD : (k : Int) ∈ c.done
                        · have HD2 : Hid (decide ((k : Int) ∈ c.done) = true) := decide_eq_true hD
                          have hw : rowWant plan c.done k = l := by unfold rowWant; rw [if_pos hD, hval]
                          by_cases hs : l = l'
                          · have Hs : Hid (decide (l = l') = true) := decide_eq_true hs
                            have Hn2 : Hid (rowsTo plan c (k + 1)) := rowsTo_succ Hk.out Hx'.out (hw.trans hs)
                            clear hD hw hs hval Hk
                            go_wp2_with fail
                            refine (l3Has_b _ _ _ _ hXk.dn HD2.out).mono ?_
                            rintro e' w9 ⟨rfl, rfl⟩
                            go_wp2_with fail
                            refine (l13Same_b _ _ _ _ _ hl hl' Hs.out).mono ?_
                            rintro e' w9 ⟨rfl, hg9⟩
                            go_wp2_with fail
                            go_roundg (n8 + 1 - (k + 1))
                            case measure => omega
                            case rel => exact ⟨k + 1, by omega, rfl, by go_num, Hn2, gb_trans hga hg9⟩
                          · have Hs : Hid (decide (l = l') = false) := decide_eq_false hs
                            have Hr : Hid (b = false) := by
                              show _ = _
                              rw [← Hb.out, Pre.out.valid, rowsOk_not Hkp.out Hx'.out (fun e => hs (hw.symm.trans e)), Bool.and_false]
                            clear hD hw hs hval Hk
                            go_wp2_with fail
                            refine (l3Has_b _ _ _ _ hXk.dn HD2.out).mono ?_
                            rintro e' w9 ⟨rfl, rfl⟩
                            go_wp2_with fail
                            refine (l13Same_b _ _ _ _ _ hl hl' Hs.out).mono ?_
                            rintro e' w9 ⟨rfl, hg9⟩
                            go_wp2_with fail
                            go_ret
                            exact ⟨by rw [Hr.out]; rfl, gb_trans g8 (gb_trans hga hg9)⟩
                        · have HD2 : Hid (decide ((k : Int) ∈ c.done) = false) := decide_eq_false hD
                          have hw : rowWant plan c.done k = [] := by unfold rowWant; rw [if_neg hD]
                          by_cases hs : [] = l'
                          · have Hs : Hid (decide ([] = l') = true) := decide_eq_true hs
                            have Hn2 : Hid (rowsTo plan c (k + 1)) := rowsTo_succ Hk.out Hx'.out (hw.trans hs)
                            clear hD hw hs hval Hk
                            go_wp2_with fail
                            refine (l3Has_b _ _ _ _ hXk.dn HD2.out).mono ?_
                            rintro e' w9 ⟨rfl, rfl⟩
                            go_wp2_with fail
                            refine (l13Same_b _ _ _ _ _ hE hl' Hs.out).mono ?_
                            rintro e' w9 ⟨rfl, hg9⟩
                            go_wp2_with fail
                            go_roundg (n8 + 1 - (k + 1))
                            case measure => omega
                            case rel => exact ⟨k + 1, by omega, rfl, by go_num, Hn2, gb_trans hga hg9⟩
                          · have Hs : Hid (decide ([] = l') = false) := decide_eq_false hs
                            have Hr : Hid (b = false) := by
                              show _ = _
                              rw [← Hb.out, Pre.out.valid, rowsOk_not Hkp.out Hx'.out (fun e => hs (hw.symm.trans e)), Bool.and_false]
                            clear hD hw hs hval Hk
                            go_wp2_with fail
                            refine (l3Has_b _ _ _ _ hXk.dn HD2.out).mono ?_
                            rintro e' w9 ⟨rfl, rfl⟩
                            go_wp2_with fail
                            refine (l13Same_b _ _ _ _ _ hE hl' Hs.out).mono ?_
                            rintro e' w9 ⟨rfl, hg9⟩
                            go_wp2_with fail
                            go_ret
                            exact ⟨by rw [Hr.out]; rfl, gb_trans g8 (gb_trans hga hg9)⟩
                      · obtain rfl : n8 = k := by omega
                        have Hr : Hid (((q : Int) == (nr : Int)) = b) := by
                          show _ = _
                          have hk2 := Hk.out
                          rw [Hn.out] at hk2
                          rw [← Hb.out, Pre.out.valid, HD.out, rowsOk_all hk2, Bool.and_true, Hq.out, ← Hnr.out, Bool.eq_iff_iff]
                          simp
                          omega
                        clear Hk hWa hga hXk hrk hE d2 d3
                        go_wp2_with fail
                        go_ret
                        exact ⟨by rw [Hr.out]; rfl, gb_trans g8 hgk⟩
          · have Hr : Hid (b = false) := crewValid_no Hb.out (fun e => hr (by rw [Hn4.out, e.rl, ← Hn.out]))
            have hne : ((n4 : Int) != (n : Int)) = true := by simp; omega
            clear hr hc ho hin hv
            go_enter Tryz.func52, Tryz.ntmps52
            go_wp2_with fail
            refine (specPlanValid_b _ plan _ hpW hpl Hv.out).mono ?_
            rintro e w1 ⟨rfl, hg1⟩
            have g1 := gb_trans hgW hg1
            have hp1 := hpW.new hg1
            have hX1 := hX.new hg1
            have d0 := hX1.d0
            have d2 := hX1.d2
            go_wp2_with fail
            refine (l6In_b _ _ _ _ Hin.out).mono ?_
            rintro e w2 ⟨rfl, rfl⟩
            go_wp2_with fail
            refine (l13Order_b _ _ plan c.done _ hp1 hX1.dn hpl Ho.out).mono ?_
            rintro e w2 ⟨rfl, hg2⟩
            replace g1 := gb_trans g1 hg2
            replace hp1 := hp1.new hg2
            replace hX1 := hX1.new hg2
            clear d0 d2
            have d0 := hX1.d0
            have d2 := hX1.d2
            have d1 := hX1.d1
            have d3 := hX1.d3
            go_wp2_with fail
            refine (l13Counts_b _ _ plan c _ hp1 hX1.cv Hv.out Ho.out Hc.out).mono ?_
            rintro e w3 ⟨rfl, hg3⟩
            have g3 := gb_trans g1 hg3
            have hX3 := hX1.new hg3
            clear d0 d1 d2 d3
            have d3 := hX3.d3
            go_wp2_with fail
            go_ret
            exact ⟨by rw [Hr.out]; rfl, g3⟩
        · have Hr : Hid (b = false) := crewValid_no Hb.out (fun e => hc (by rw [e.counts, countsAfter_eq e.pv e.order]))
          have Hc : Hid (decide (c.counts = countsAfter plan c.done) = false) := decide_eq_false hc
          clear hc ho hin hv
          go_enter Tryz.func52, Tryz.ntmps52
          go_wp2_with fail
          refine (specPlanValid_b _ plan _ hpW hpl Hv.out).mono ?_
          rintro e w1 ⟨rfl, hg1⟩
          have g1 := gb_trans hgW hg1
          have hp1 := hpW.new hg1
          have hX1 := hX.new hg1
          have d0 := hX1.d0
          have d2 := hX1.d2
          go_wp2_with fail
          refine (l6In_b _ _ _ _ Hin.out).mono ?_
          rintro e w2 ⟨rfl, rfl⟩
          go_wp2_with fail
          refine (l13Order_b _ _ plan c.done _ hp1 hX1.dn hpl Ho.out).mono ?_
          rintro e w2 ⟨rfl, hg2⟩
          replace g1 := gb_trans g1 hg2
          replace hp1 := hp1.new hg2
          replace hX1 := hX1.new hg2
          clear d0 d2
          have d0 := hX1.d0
          have d2 := hX1.d2
          have d1 := hX1.d1
          have d3 := hX1.d3
          go_wp2_with fail
          refine (l13Counts_b _ _ plan c _ hp1 hX1.cv Hv.out Ho.out Hc.out).mono ?_
          rintro e w3 ⟨rfl, hg3⟩
          have g3 := gb_trans g1 hg3
          go_wp2_with fail
          go_ret
          exact ⟨by rw [Hr.out]; rfl, g3⟩
      · have Hr : Hid (b = false) := crewValid_no Hb.out (fun e => ho e.order)
        have Ho' : Hid (orderOk plan c.done = false) := by show _ = _; simpa using ho
        clear ho hin hv
        go_enter Tryz.func52, Tryz.ntmps52
        go_wp2_with fail
        refine (specPlanValid_b _ plan _ hpW hpl Hv.out).mono ?_
        rintro e w1 ⟨rfl, hg1⟩
        have g1 := gb_trans hgW hg1
        have hp1 := hpW.new hg1
        have hX1 := hX.new hg1
        have d0 := hX1.d0
        have d2 := hX1.d2
        go_wp2_with fail
        refine (l6In_b _ _ _ _ Hin.out).mono ?_
        rintro e w2 ⟨rfl, rfl⟩
        go_wp2_with fail
        refine (l13Order_b _ _ plan c.done _ hp1 hX1.dn hpl Ho'.out).mono ?_
        rintro e w2 ⟨rfl, hg2⟩
        replace g1 := gb_trans g1 hg2
        replace hp1 := hp1.new hg2
        replace hX1 := hX1.new hg2
        clear d0 d2
        have d0 := hX1.d0
        have d2 := hX1.d2
        go_wp2_with fail
        go_ret
        exact ⟨by rw [Hr.out]; rfl, g1⟩
    · have Hr : Hid (b = false) := crewValid_no Hb.out (fun e => hin ⟨by have := Hn1.out; have := e.d1; omega, by have := Hn1.out; have := e.d4; omega⟩)
      have Hin : Hid ((decide ((1 : Int) ≤ (n1 : Int)) && decide ((n1 : Int) ≤ 4)) = false) := by
        show _ = _
        rw [Bool.and_eq_false_iff, decide_eq_false_iff_not, decide_eq_false_iff_not]
        omega
      clear hin hv
      go_enter Tryz.func52, Tryz.ntmps52
      go_wp2_with fail
      refine (specPlanValid_b _ plan _ hpW hpl Hv.out).mono ?_
      rintro e w1 ⟨rfl, hg1⟩
      have g1 := gb_trans hgW hg1
      have hp1 := hpW.new hg1
      have hX1 := hX.new hg1
      have d0 := hX1.d0
      have d2 := hX1.d2
      go_wp2_with fail
      refine (l6In_b _ _ _ _ Hin.out).mono ?_
      rintro e w2 ⟨rfl, rfl⟩
      go_wp2_with fail
      go_ret
      exact ⟨by rw [Hr.out]; rfl, g1⟩
  · have Hr : Hid (b = false) := crewValid_no Hb.out (fun e => hv e.pv)
    have Hv' : Hid (planValid plan = false) := by show _ = _; simpa using hv
    clear hv
    go_enter Tryz.func52, Tryz.ntmps52
    go_wp2_with fail
    refine (specPlanValid_b _ plan _ hpW hpl Hv'.out).mono ?_
    rintro e w1 ⟨rfl, hg1⟩
    have g1 := gb_trans hgW hg1
    go_wp2_with fail
    go_ret
    exact ⟨by rw [Hr.out]; rfl, g1⟩
end Go.Proofs.YtihobnheficpjaaGreatDoor
