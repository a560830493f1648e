/- Walks: impl.CountWide. -/
import Derived.Test.YtjlnhijabdkagaaH2IKinds
import Derived.Test.YtjlnhijabdkagaaX5Wide
namespace Go.Proofs.Ytjlnhijabdkagaa
open Go.RowKit Go.Shelf
attribute [local go_sem] Oper.semAt_some

set_option maxRecDepth 100000 in
set_option maxHeartbeats 1000000 in
theorem implCountWide_any (v : Value) (plan : List Node) (w : World) (h : RN w v plan) :
    Calls Try.prog 45 #[v] w fun e w' => e = .returned (.int .i64 (countWide plan)) ∧ w.grownBy w' none := by
  obtain ⟨A, n, c, rfl⟩ := h.val
  by_cases hv : planValid plan = true
  · have Hv := Lib.hid hv
    clear hv
    obtain ⟨i0, hi, hz0, hz1, hz2⟩ := info_parts info3
    have hle : n ≤ 10 := by have := planValid_len Hv.out; rw [← h.len] at this; exact this
    have hn := Lib.hid h.len
    obtain ⟨V, hV⟩ := NodeVals.exists h
    refine (callsIn_wide (n := 3)).1 ?_
    refine callsIn_of_wp_marks Try.func45 rfl trivial ?_ rfl
    simp only [Try.ntmps45, List.size_toArray, List.length_cons, List.length_nil, Nat.reduceAdd, Nat.reduceSub, Array.replicate_succ, Array.replicate_zero, List.push_toArray, List.append_toArray, List.nil_append, List.cons_append]
    gi_wp2_with (first
      | (refine ⟨trivial, ?_⟩; gi_at_call 70; refine (callsIn_wide.2 (implPlanValid_b _ plan _ (by exact h.alloc _) Hv.out)).mono ?_; rintro e W2 ⟨rfl, hg2⟩; have hp2 := (Blk.new w 23 #[.slice A n c]).grown hg2 (by simp); have hpc := hp2.cell 0)
      | (gi_at_make; go_must (refine wpListIn_make_full _ rfl _ _ 27 rfl W2.heap.size 3 i0 _ 1 Try.underlying27 hi hz0 hz1 _ _ _ _ n rfl rfl rfl rfl (by rw [hz2]; omega) (by unfold maxLen; omega) (Nat.le_refl _) ?_)))
    intro W3 hown3 hg3
    have hO3 : OwnI W3 W2.heap.size (.slice (some ⟨W2.heap.size, 0, none⟩) n n) (List.replicate n 0) := by
      refine OwnI.made ?_
      have e : n * 1 = n := Nat.mul_one n
      first | exact hown3 | (rw [e] at hown3; exact hown3) | (simp at hown3; exact hown3)
    have hsz3 : W2.heap.size < W3.heap.size := (hown3.lt W2.heap.size rfl).2
    clear hown3
    have hp3 : Blk W3 w.heap.size 23 #[.slice A n c] := hp2.grown hg3 (by simp)
    have hpl : w.heap.size < W2.heap.size := hp2.lt
    have hp5 : ((W3.alloc (.cells #[.slice (some ⟨W2.heap.size, 0, none⟩) n n] 27)).alloc (.cells #[.int .i64 0] 3)).cell? ⟨w.heap.size, 0, none⟩ = some (.slice A n c) := ((hp3.alloc _).alloc _).cell 0
    gi_wp2_with (refine ⟨trivial, ?_⟩; gi_at_call 71; refine (callsIn_wide.2 (nodesOf_any _ _ _ _)).mono ?_; rintro e W4 ⟨rfl, rfl⟩)
    have hg23 := gb_trans (gb_trans (World.grownBy_alloc w (.cells #[.slice A n c] 23) none) hg2) hg3
    have hO4 : OwnI (((W3.alloc (.cells #[.slice (some ⟨W2.heap.size, 0, none⟩) n n] 27)).alloc (.cells #[.int .i64 0] 3)).alloc (.cells #[.slice A n c] 23)) w.heap.size (.slice (some ⟨W2.heap.size, 0, none⟩) n n) (widthsL plan n []) := by
      rw [widthsL_nil]
      exact (((hO3.low (by omega)).alloc _).alloc _).alloc _
    have hbp : Blk (((W3.alloc (.cells #[.slice (some ⟨W2.heap.size, 0, none⟩) n n] 27)).alloc (.cells #[.int .i64 0] 3)).alloc (.cells #[.slice A n c] 23)) w.heap.size 23 #[.slice A n c] := ((hp3.alloc _).alloc _).alloc _
    have hbs : Blk (((W3.alloc (.cells #[.slice (some ⟨W2.heap.size, 0, none⟩) n n] 27)).alloc (.cells #[.int .i64 0] 3)).alloc (.cells #[.slice A n c] 23)) W3.heap.size 27 #[.slice (some ⟨W2.heap.size, 0, none⟩) n n] := ((Blk.new W3 _ _).alloc _).alloc _
    have hbm : Blk (((W3.alloc (.cells #[.slice (some ⟨W2.heap.size, 0, none⟩) n n] 27)).alloc (.cells #[.int .i64 0] 3)).alloc (.cells #[.slice A n c] 23)) (W3.heap.size + 1) 3 #[.int .i64 0] := by
      have := (Blk.new (W3.alloc (.cells #[.slice (some ⟨W2.heap.size, 0, none⟩) n n] 27)) 3 #[.int .i64 0]).alloc (.cells #[.slice A n c] 23)
      rw [World.size_alloc] at this
      exact this
    have hbB : Blk (((W3.alloc (.cells #[.slice (some ⟨W2.heap.size, 0, none⟩) n n] 27)).alloc (.cells #[.int .i64 0] 3)).alloc (.cells #[.slice A n c] 23)) (W3.heap.size + 1 + 1) 23 #[.slice A n c] := by
      have := Blk.new ((W3.alloc (.cells #[.slice (some ⟨W2.heap.size, 0, none⟩) n n] 27)).alloc (.cells #[.int .i64 0] 3)) 23 #[.slice A n c]
      rw [World.size_alloc, World.size_alloc] at this
      exact this
    have hw4 : Below w.heap.size w (((W3.alloc (.cells #[.slice (some ⟨W2.heap.size, 0, none⟩) n n] 27)).alloc (.cells #[.int .i64 0] 3)).alloc (.cells #[.slice A n c] 23)) := gb_below (gb_alloc (gb_alloc (gb_alloc hg23 _) _) _)
    have hws : (((W3.alloc (.cells #[.slice (some ⟨W2.heap.size, 0, none⟩) n n] 27)).alloc (.cells #[.int .i64 0] 3)).alloc (.cells #[.slice A n c] 23)).heap.size = W3.heap.size + 3 := by simp
    clear hp5 hpc hg23
    generalize (((W3.alloc (.cells #[.slice (some ⟨W2.heap.size, 0, none⟩) n n] 27)).alloc (.cells #[.int .i64 0] 3)).alloc (.cells #[.slice A n c] 23)) = w4 at *
    have hws1 : W3.heap.size + 3 ≤ w4.heap.size := by omega
    clear hO3 hp2 hp3 hg2 hg3 hws
    refine wpIn_rangeFunc_ownH rfl (by omega) (gf := 106) (lb := #[.pointer (some ⟨W3.heap.size + 1 + 1, 0, none⟩)]) rfl trivial (enters_of Try.func106 (by kernel_rfl) rfl)
      (nodes_stops 2 (by omega) (W3.heap.size + 1 + 1) n c A plan V w w4 h hV Hv.out hw4 (by omega) (hbB.cell 0)) belowK_t (belowK_b (by omega)) (Below.refl _ _) (fun _ => rfl)
      (fun pre W => OwnI W w.heap.size (.slice (some ⟨W2.heap.size, 0, none⟩) n n) (widthsL plan n (pre.map (fun i : Fin n => i.1))) ∧ Blk W w.heap.size 23 #[.slice A n c] ∧ Blk W W3.heap.size 27 #[.slice (some ⟨W2.heap.size, 0, none⟩) n n] ∧
        (∃ most : Int, Hid (IsWideL plan (pre.map (fun i : Fin n => i.1)) most) ∧ 0 ≤ most ∧ most ≤ 10 ∧ Blk W (W3.heap.size + 1) 3 #[.int .i64 most]) ∧ Below w.heap.size w W)
      (fun _ _ _ => False)
      ?own (fun _ _ _ _ _ hs _ _ => hs)
      ⟨hO4, hbp, hbs, ⟨0, IsWideL.nil plan, by omega, by omega, hbm⟩, hw4⟩
      (fun x a' W => a' = { tmps := #[.slice A n c, .pointer (some ⟨w.heap.size, 0, none⟩), .int .i64 0, .pointer (some ⟨W3.heap.size, 0, none⟩), .pointer (some ⟨W3.heap.size + 1, 0, none⟩), .int .i64 (x.1 : Nat), undef, .slice A n c, .bool true, .bool false,
          .slice A n c, .int .i64 n, .slice (some ⟨W2.heap.size, 0, none⟩) n n, .slice A n c, .func (.func 106) #[] #[.pointer (some ⟨W3.heap.size + 1 + 1, 0, none⟩)], .int .i64 (x.1 : Nat), V x.1, undef, undef, undef, undef, undef, undef, undef, undef, undef, undef, undef, undef, undef, undef, undef, undef], defers := [] })
      (fun x a' s W W' row hs hg hr => hs)
      ?assign ?body ?done ?stop
    case own =>
      rintro pre W W' row ⟨h1, h2, h3, ⟨m, h4, h5, h6, h7⟩, h9⟩ hg hr
      exact ⟨ownI_own _ _ _ _ () W W' row h1 hg hr, blk_own _ _ _ _ () W W' row h2 hg hr, blk_own _ _ _ _ () W W' row h3 hg hr, ⟨m, h4, h5, h6, blk_own _ _ _ _ () W W' row h7 hg hr⟩, ownFrom_below (Nat.le_refl _) (by omega) pre W W' row h9 hg hr⟩
    case assign =>
      rintro l pre x W K hI hK
      have K2 := hK { tmps := #[.slice A n c, .pointer (some ⟨w.heap.size, 0, none⟩), .int .i64 0, .pointer (some ⟨W3.heap.size, 0, none⟩), .pointer (some ⟨W3.heap.size + 1, 0, none⟩), .int .i64 (x.1 : Nat), undef, .slice A n c, .bool true, .bool false,
          .slice A n c, .int .i64 n, .slice (some ⟨W2.heap.size, 0, none⟩) n n, .slice A n c, .func (.func 106) #[] #[.pointer (some ⟨W3.heap.size + 1 + 1, 0, none⟩)], .int .i64 (x.1 : Nat), V x.1, undef, undef, undef, undef, undef, undef, undef, undef, undef, undef, undef, undef, undef, undef, undef, undef], defers := [] } W
        ((KeepsOthers.refl _).from _) (Below.refl _ W) hI rfl
      clear hK hI hV
      gi_wp2
      exact K2
    case body =>
      rintro l pre x a' W hl ⟨r, hr⟩ ⟨hO, hp, hs, ⟨most, Hm, hm0, hm1, hbm⟩, hB⟩ rfl hlen
      have hxn := x.2
      obtain ⟨q, hq⟩ := Int.eq_ofNat_of_zero_le (lv_nonneg Hv.out x.1)
      have hqx : q ≤ x.1 := by have := lv_le Hv.out x.1; omega
      have hqn : q < n := by omega
      have c0 : W.cell? ⟨w.heap.size, 0, none⟩ = some (.slice A n c) := hp.cell 0
      have HRN := Lib.hid (h.new (gb_of_below hB none))
      have Hq := Lib.hid hq
      clear hq hV hr
      gi_wp2_with (refine ⟨trivial, ?_⟩; gi_at_call 87; refine (callsIn_wide.2 (levelOf_any _ plan x.1 _ HRN.out Hv.out (by rw [← hn.out]; exact hxn))).mono ?_)
      rintro e W5 ⟨rfl, hg5⟩
      rw [Hq.out]
      have hO5 := hO.new hg5
      have hp5 := hp.grown hg5 (by simp)
      have hs5 := hs.grown hg5 (by simp)
      have hm5 := hbm.grown hg5 (by simp)
      have hB5 : Below w.heap.size w W5 := hB.trans ((gb_below hg5).mono hB.size)
      obtain ⟨Y, hwY, hy0, hy1, hset, hstep⟩ : ∃ Y : Int, (widthsL plan n (pre.map (fun i : Fin n => i.1)))[q]? = some Y ∧ 0 ≤ Y ∧ Y + 1 ≤ 10 ∧ widthsL plan n ((pre ++ [x]).map (fun i : Fin n => i.1)) = (widthsL plan n (pre.map (fun i : Fin n => i.1))).set q (Y + 1) ∧ IsWideL plan ((pre ++ [x]).map (fun i : Fin n => i.1)) (max most (Y + 1)) := by
        have hol := onL_len plan (pre.map (fun i : Fin n => i.1)) q
        rw [List.length_map] at hol
        have e1 : (pre ++ [x]).map (fun i : Fin n => i.1) = pre.map (fun i : Fin n => i.1) ++ [x.1] := by simp
        exact ⟨_, widthsL_get hqn, by omega, by omega, by rw [e1]; exact widthsL_snoc Hq.out hqn, by rw [e1]; exact Hm.out.step Hq.out⟩
      obtain ⟨d0, f0, hb0, ⟨cs, hbk⟩⟩ := hO5.cell hwY
      have hO' := hO5.set_ (widthsL_len _ _ _).symm q (Y + 1)
      rw [← hset] at hO'
      have hs1 : W5.cell? ⟨W3.heap.size, 0, none⟩ = some (.slice (some ⟨W2.heap.size, 0, none⟩) n n) := hs5.cell 0
      have hs6 := hs5.far (p := ⟨W2.heap.size, q, none⟩) (hs5.ne_ hbk (by decide)) (.int .i64 (Y + 1))
      have hm6 := hm5.far (p := ⟨W2.heap.size, q, none⟩) (by show W3.heap.size + 1 ≠ W2.heap.size; omega) (.int .i64 (Y + 1))
      have hp6 := hp5.far (p := ⟨W2.heap.size, q, none⟩) (by show w.heap.size ≠ W2.heap.size; omega) (.int .i64 (Y + 1))
      have hB6 := hB5.setCell (p := ⟨W2.heap.size, q, none⟩) (by show w.heap.size ≤ W2.heap.size; omega) (.int .i64 (Y + 1))
      have hK6 := (KeepsOthers.of_grownBy hg5 (fun _ _ e => by cases e)).trans (KeepsOthers.setCell W5 ⟨W2.heap.size, q, none⟩ (.int .i64 (Y + 1)))
      have hb6 : Below w.heap.size W (W5.setCell ⟨W2.heap.size, q, none⟩ (.int .i64 (Y + 1))) := ((gb_below hg5).mono hB.size).setCell (p := ⟨W2.heap.size, q, none⟩) (by show w.heap.size ≤ W2.heap.size; omega) _
      have c3 : (W5.setCell ⟨W2.heap.size, q, none⟩ (.int .i64 (Y + 1))).cell? ⟨W2.heap.size, q, none⟩ = some (.int .i64 (Y + 1)) := World.cell?_setCell_same (h := d0) ..
      clear hset hwY hO hp hs hbm hB c0 hbk hO5 hp5 hs5 hm5 hB5 hg5 Hm
      gi_wp2
      generalize W5.setCell ⟨W2.heap.size, q, none⟩ (.int .i64 (Y + 1)) = W6 at *
      have c1 := hs6.cell 0
      have c2 := hm6.cell 0
      have f2 := hm6.frozen 0
      have fin : ∀ z : Int, z = max most (Y + 1) → KeepsFrom w4.heap.size W (W6.setCell ⟨W3.heap.size + 1, 0, none⟩ (.int .i64 z)) ∧ Below w.heap.size W (W6.setCell ⟨W3.heap.size + 1, 0, none⟩ (.int .i64 z)) ∧
          (OwnI (W6.setCell ⟨W3.heap.size + 1, 0, none⟩ (.int .i64 z)) w.heap.size (.slice (some ⟨W2.heap.size, 0, none⟩) n n) (widthsL plan n ((pre ++ [x]).map (fun i : Fin n => i.1))) ∧ Blk (W6.setCell ⟨W3.heap.size + 1, 0, none⟩ (.int .i64 z)) w.heap.size 23 #[.slice A n c] ∧
           Blk (W6.setCell ⟨W3.heap.size + 1, 0, none⟩ (.int .i64 z)) W3.heap.size 27 #[.slice (some ⟨W2.heap.size, 0, none⟩) n n] ∧
           (∃ most : Int, Hid (IsWideL plan ((pre ++ [x]).map (fun i : Fin n => i.1)) most) ∧ 0 ≤ most ∧ most ≤ 10 ∧ Blk (W6.setCell ⟨W3.heap.size + 1, 0, none⟩ (.int .i64 z)) (W3.heap.size + 1) 3 #[.int .i64 most]) ∧ Below w.heap.size w (W6.setCell ⟨W3.heap.size + 1, 0, none⟩ (.int .i64 z))) := by
        intro z hz
        have hst : W6.grownBy (W6.setCell ⟨W3.heap.size + 1, 0, none⟩ (.int .i64 z)) (some (W3.heap.size + 1)) := gb_set (p := ⟨W3.heap.size + 1, 0, none⟩) (gb_refl W6 (some (W3.heap.size + 1))) (.inr rfl) _
        refine ⟨(hK6.trans (KeepsOthers.setCell W6 _ _)).from _, hb6.setCell (p := ⟨W3.heap.size + 1, 0, none⟩) (by show w.heap.size ≤ W3.heap.size + 1; omega) _, hO'.apart_ hst (.inr (by simp [Value.ownBlock]; omega)), hp6.far (p := ⟨W3.heap.size + 1, 0, none⟩) (by show w.heap.size ≠ W3.heap.size + 1; omega) _,
          hs6.far (p := ⟨W3.heap.size + 1, 0, none⟩) (by show W3.heap.size ≠ W3.heap.size + 1; omega) _, ⟨z, by rw [hz]; exact hstep, by omega, by omega, hm6.set_ 0 _⟩, hB6.setCell (p := ⟨W3.heap.size + 1, 0, none⟩) (by show w.heap.size ≤ W3.heap.size + 1; omega) _⟩
      have Fin := Lib.hid fin
      clear fin hstep hO' hp6 hs6 hm6 hB6 hK6 hb6
      by_cases hc : most < Y + 1
      · gi_region
        all_goals
          gi_wp2
          have F := Fin.out (Y + 1) (by omega)
          exact ⟨⟨F.1.size, F.1.same⟩, F.2.1.drew, F.2.2.1, F.2.2.2.1, F.2.2.2.2.1, F.2.2.2.2.2.1, F.2.2.2.2.2.2.drew⟩
      · have hc' : Y + 1 ≤ most := by omega
        gi_region
        all_goals
          gi_wp2
          have F := Fin.out most (by omega)
          exact ⟨⟨F.1.size, F.1.same⟩, F.2.1.drew, F.2.2.1, F.2.2.2.1, F.2.2.2.2.1, F.2.2.2.2.2.1, F.2.2.2.2.2.2.drew⟩
    case done =>
      rintro D ys W hD rfl ⟨hO, hp, hs, ⟨most, Hm, hm0, hm1, hbm⟩, hB⟩ hK
      have e1 : (List.finRange n).map (fun i : Fin n => i.1) = List.range plan.length := by
        rw [← hn.out]
        apply List.ext_getElem
        · simp
        · intro i h1 h2
          simp
      have Hr : Hid (countWide plan = most) := by
        show _ = _
        have := Hm.out
        rw [e1] at this
        exact (IsWideL.all Hv.out this).symm
      have c0 : W.cell? ⟨W3.heap.size + 1, 0, none⟩ = some (.int .i64 most) := hbm.cell 0
      clear hO hp hs hbm e1
      gi_wp2
      refine ⟨by simp, .inl ⟨_, _, rfl, run_takeDeferred hK, ?_⟩⟩
      exact ⟨.int .i64 most, by simp [results, Try.results45, go_sem], by rw [Hr.out], gb_of_below (hB.trans (belowK_b (w := w) (Nat.le_refl _) W D _ _ (by omega) hK rfl rfl)) none⟩
    case stop =>
      rintro D c pre W _ _ h _
      exact h.elim
  · have hv' : planValid plan = false := by simpa using hv
    have Hv := Lib.hid hv'
    have Hr : Hid (countWide plan = -1) := by show countWide plan = _; unfold countWide; rw [if_neg hv]
    clear hv hv'
    go_enter Try.func45, Try.ntmps45
    go_wp2_with fail
    refine (implPlanValid_b _ plan _ (h.alloc _) Hv.out).mono ?_
    rintro e w' ⟨rfl, hg⟩
    go_wp2_with fail
    go_ret
    exact ⟨by rw [Hr.out]; rfl, gb_trans (World.grownBy_alloc w _ none) hg⟩
end Go.Proofs.Ytjlnhijabdkagaa
