/- Walks: laws.FnCachePart. -/
import Derived.Test.YtjlnhijabdkagaaT2Draw
namespace Go.Proofs.Ytjlnhijabdkagaa
open Go.RowKit

/-- The rest of a slice of entries. -/
theorem RE.drop {w : World} {es : List Ent} {g o n c k : Nat} (h : RE w (.slice (some ⟨g, o, none⟩) n c) es) (hk : k ≤ n) : RE w (.slice (some ⟨g, o + k * 3, none⟩) (n - k) (c - k)) (es.drop k) := by
  have hn := h.len
  obtain ⟨xs, h1, h2⟩ := h
  obtain ⟨hl, A, c', hv, hnc, hcm, hA, hc⟩ := h1
  injection hv with e1 e2 e3
  subst e1 e3
  have hkl : (es.drop k).length = n - k := by rw [List.length_drop]; omega
  refine ⟨xs.drop (k * 3), ?_, ?_⟩
  · rw [hkl]
    refine ⟨by rw [List.length_drop]; omega, _, _, rfl, by omega, by omega, by simp, ?_⟩
    rcases Nat.eq_zero_or_pos (n - k) with h0 | h0
    · exact .inl h0
    · right
      rcases hc with hc | ⟨g', o', cur, e, hB, hcell⟩
      · omega
      · injection e with e
        injection e with e1 e2
        subst e1 e2
        refine ⟨_, _, cur, rfl, hB, fun j u hj => ?_⟩
        rw [List.getElem?_drop] at hj
        have := hcell _ u hj
        rw [show o + k * 3 + j = o + (k * 3 + j) by omega]
        exact this
  · intro i e hi
    rw [List.getElem?_drop] at hi
    obtain ⟨r, u, k1, k2, k3, k4, k5⟩ := h2 (k + i) e hi
    refine ⟨r, u, ?_, ?_, ?_, k4, k5⟩
    · rw [List.getElem?_drop, show k * 3 + i * 3 = (k + i) * 3 by omega]; exact k1
    · rw [List.getElem?_drop, show k * 3 + (i * 3 + 1) = (k + i) * 3 + 1 by omega]; exact k2
    · rw [List.getElem?_drop, show k * 3 + (i * 3 + 2) = (k + i) * 3 + 2 by omega]; exact k3
set_option maxRecDepth 20000 in
/-- 'append(out, xs...)' of entries, inside a region that draws its order. -/
theorem step_extend_ents {ops : Array Oper} {o : Oper} {a : Act} {K : Act → World → Prop} {Q : Exit → Act → World → Prop} {E : Prop} {w : World}
    (s x : Operand) (hgd : o.guard = none) (ho : o.op = .call { callee := .builtin .append, args := #[s, x], argTypes := #[41, 41] })
    {base : Nat} {v : Value} {l0 l : List Ent} {g ox c : Nat} (n : Nat) (hown : OwnE w base v l0) (hxv : RE w (.slice (some ⟨g, ox, none⟩) n c) l) (hn : l0.length + l.length ≤ 1000000) (hbase : base ≤ w.heap.size)
    (hs : a.eval s = v) (hx : a.eval x = .slice (some ⟨g, ox, none⟩) n c)
    (h : ∀ v' w', OwnE w' base v' (l0 ++ l) → w.grownBy w' v.ownBlock → K (a.put o.dst v') w') :
    if Region.wanted o (yielded ops a.tmps) = true then Oper.wp Try.prog o a w K Q else E := by
  have hw : Region.wanted o (yielded ops a.tmps) = true := by simp [Region.wanted, hgd]
  rw [if_pos hw]
  have hnl := hxv.len
  subst hnl
  obtain ⟨i, hi, hz0, hz1, hz2⟩ := info_parts info62
  obtain ⟨xs, h1, h2⟩ := hxv
  obtain ⟨ys, ho1, ho2⟩ := hown
  have hxl := h1.1
  have hyl := ho1.1
  refine wp_append_own _ s x 41 ho base 62 i _ 3 56 Try.underlying41 hi hz0 hz1 hz2 rfl (by decide) v _ _ hs ho1 ⟨g, ox, none⟩ l.length c xs hx hxl ?_ ?_ ?_ ?_ hbase ?_
  · intro j u hj
    have hjl := (List.getElem?_eq_some_iff.1 hj).1
    obtain ⟨g', o', cur, e, _, hcell⟩ := TS.at_ h1 (by omega)
    injection e with e
    injection e with e1 e2
    subst e1 e2
    rw [Addr.add_lit]
    exact hcell j u hj
  · intro u hu
    obtain ⟨j, hj, rfl⟩ := List.getElem_of_mem hu
    have hjl : j / 3 < l.length := by omega
    obtain ⟨r, u, k1, k2, k3, k4, k5⟩ := h2 (j / 3) _ (List.getElem?_eq_getElem hjl)
    rcases (show j = j / 3 * 3 ∨ j = j / 3 * 3 + 1 ∨ j = j / 3 * 3 + 2 by omega) with e | e | e
    · rw [← e, List.getElem?_eq_getElem hj] at k1
      rw [Option.some.inj k1]
      rfl
    · rw [← e, List.getElem?_eq_getElem hj] at k2
      rw [Option.some.inj k2]
      exact k4.oneCell
    · rw [← e, List.getElem?_eq_getElem hj] at k3
      rw [Option.some.inj k3]
      exact k5.oneCell
  · unfold maxLen; omega
  · omega
  · intro v' w' h3 h4 _
    have hne : NotE w 3 v.ownBlock := NotE.own ho1 (by decide)
    have hne2 : NotE w 27 v.ownBlock := NotE.own ho1 (by decide)
    refine h v' w' ⟨_, by rw [List.length_append]; exact h3, ?_⟩ h4
    intro i' e hi'
    by_cases hl : i' < l0.length
    · rw [List.getElem?_append_left hl] at hi'
      exact ((ho2 i' e hi').snoc_old).grown h4 hne hne2
    · rw [List.getElem?_append_right (by omega)] at hi'
      obtain ⟨r, u, k1, k2, k3, k4, k5⟩ := h2 _ e hi'
      refine EC.grown ⟨r, u, ?_, ?_, ?_, k4, k5⟩ h4 hne hne2
      · rw [List.getElem?_append_right (by omega), show i' * 3 - ys.length = (i' - l0.length) * 3 by omega]; exact k1
      · rw [List.getElem?_append_right (by omega), show i' * 3 + 1 - ys.length = (i' - l0.length) * 3 + 1 by omega]; exact k2
      · rw [List.getElem?_append_right (by omega), show i' * 3 + 2 - ys.length = (i' - l0.length) * 3 + 2 by omega]; exact k3
theorem part_valid {es : List Ent} (h : cacheValid es = true) (k : Nat) : cacheValid (([] ++ es.take k) ++ es.drop (k + 1)) = true := by
  refine valid_sub h ?_
  rw [List.nil_append]
  conv => rhs; rw [← List.take_append_drop k es]
  refine List.Sublist.append (List.Sublist.refl _) ?_
  rw [← List.drop_drop]
  exact List.drop_sublist _ _
theorem twice_invalid {es : List Ent} {k : Nat} (hk : k < es.length) : cacheValid (([] ++ es.take (k + 1)) ++ es.drop k) = false := by
  rw [List.nil_append]
  refine not_valid_twice (i := k) (j := k + 1) (e := es[k]) (by omega) ?_ ?_
  · rw [List.getElem?_append_left (by rw [List.length_take]; omega), List.getElem?_take, if_pos (by omega), List.getElem?_eq_getElem hk]
  · have hl : (es.take (k + 1)).length = k + 1 := by rw [List.length_take]; omega
    rw [List.getElem?_append_right (by omega), hl, Nat.sub_self, List.getElem?_drop, Nat.add_zero, List.getElem?_eq_getElem hk]
set_option maxHeartbeats 1600000 in
set_option maxRecDepth 20000 in
theorem fnCachePart_any (w : World) (v v2 : Value) (n n2 : Nat) (h : Bytes w w.heap.size v n) (hn : n ≤ 9223372036854775807) (h2 : Bytes w w.heap.size v2 n2) (hn2 : n2 ≤ 9223372036854775807) :
    Calls Try.prog 9 #[v, v2] w fun e w' => e = .returned (.bool true) ∧ w.grownBy w' none := by
  obtain ⟨A, c, rfl, hx⟩ := id h
  obtain ⟨A0, c0, rfl, hx2⟩ := id h2
  have H := Lib.hid h
  clear h hx h2 hx2
  by_cases hbig : 1048576 < n
  · go_enter Try.func9, Try.ntmps9
    go_wp2_with fail
    go_ret
    exact ⟨rfl, gb_refl _ _⟩
  · by_cases hbig2 : 1048576 < n2
    · go_enter Try.func9, Try.ntmps9
      go_wp2_with fail
      go_ret
      exact ⟨rfl, gb_refl _ _⟩
    · go_enter Try.func9, Try.ntmps9
      go_wp2_with fail
      refine (drawCacheValid_any _ _ n H.out (by omega)).mono ?_
      rintro e w1 ⟨lv, es, rfl, hre, hl5, hg1⟩
      have hre1 := hre
      obtain ⟨A2, m, c2, rfl, hmc, hm, -⟩ := hre.form'
      clear hre
      by_cases hv : cacheValid es = true
      · have Hv := Lib.hid hv
        have hm4 : m ≤ 4 := by rw [hm]; exact valid_len hv
        have Hm := Lib.hid hm
        clear hv hm hl5
        go_wp2_with fail
        refine (implCacheValid_b _ es _ hre1 Hv.out).mono ?_
        rintro e w2 ⟨rfl, hg2⟩
        have hre2 := hre1.new hg2
        go_wp2_with fail
        refine (specCacheValid_b _ es _ hre2 Hv.out).mono ?_
        rintro e w3 ⟨rfl, hg3⟩
        have hre3 := hre2.new hg3
        have hg := gb_trans (gb_trans hg1 hg2) hg3
        clear hre1 hre2 hg1 hg2 hg3
        by_cases hm0 : m = 0
        · subst hm0
          go_wp2_with fail
          go_ret
          exact ⟨rfl, hg⟩
        · obtain ⟨g, o, e0, B1, p1, q1, B2, p2, q2, rfl, -, -, -, -, -, -⟩ := hre3.at_ (k := 0) (by omega)
          obtain ⟨k, hk⟩ : ∃ k, k = n2 % m := ⟨_, rfl⟩
          have hkm : k < m := by rw [hk]; exact Nat.mod_lt _ (by omega)
          have hmod : (n2 : Int).tmod (m : Int) = (k : Int) := by rw [hk]; rfl
          clear hk
          have hw1 : IntKind.i64.wrap ((k : Int) + 1) = ((k + 1 : Nat) : Int) := by rw [IntWalk.i64_in _ (by omega)]; rfl
          have hk1 : k + 1 ≤ m := hkm
          have hb1 : (0 : Int) ≤ (k : Int) + 1 := by omega
          have hb2 : (k : Int) + 1 ≤ (m : Int) := by omega
          have hb3 : (k : Int) ≤ (m : Int) := by omega
          have hb4 : (k : Int) + 1 ≤ (c2 : Int) := by omega
          have hkc : k ≤ c2 := by omega
          have hk1c : k + 1 ≤ c2 := by omega
          have hkes : k < es.length := by rw [← Hm.out]; exact hkm
          have hlenT : ([] : List Ent).length + (es.take k).length ≤ 1000000 := by rw [List.length_take]; simp; omega
          have hlenD : (es.take k).length + (es.drop (k + 1)).length ≤ 1000000 := by rw [List.length_take, List.length_drop, ← Hm.out]; omega
          have hlenT2 : ([] : List Ent).length + (es.take (k + 1)).length ≤ 1000000 := by rw [List.length_take]; simp; omega
          have hlenD2 : (es.take (k + 1)).length + (es.drop k).length ≤ 1000000 := by rw [List.length_take, List.length_drop, ← Hm.out]; omega
          obtain ⟨ox, hox, hDr⟩ : ∃ ox, (if c2 = k + 1 then some (⟨g, o, none⟩ : Addr) else some ⟨g, o + (k + 1) * 3, none⟩) = some ⟨g, ox, none⟩ ∧ ∀ w', w3.grownBy w' none → RE w' (.slice (some ⟨g, ox, none⟩) (m - (k + 1)) (c2 - (k + 1))) (es.drop (k + 1)) := by
            by_cases hck : c2 = k + 1
            · refine ⟨o, by rw [if_pos hck], fun w' hw' => ?_⟩
              have hmk : m = k + 1 := by omega
              rw [hck, hmk, Nat.sub_self]
              have : es.drop (k + 1) = [] := List.drop_eq_nil_of_le (by rw [← Hm.out, hmk]; exact Nat.le_refl _)
              rw [this]
              exact ⟨[], ⟨rfl, _, _, rfl, Nat.le_refl _, Nat.zero_le _, by simp, .inl rfl⟩, fun i e h => by simp at h⟩
            · exact ⟨_, by rw [if_neg hck], fun w' hw' => (hre3.new hw').drop hk1⟩
          go_upto_region 9 with fail
          go_cut [9] (fun x wx => ∃ v5, x = v5 ∧ OwnE wx w.heap.size v5 (es.take k ++ es.drop (k + 1)) ∧ w3.grownBy wx none)
          case first =>
            have hE : OwnE (w3.alloc (.cells #[] 62)).drew w.heap.size (.slice (some ⟨w3.heap.size, 0, none⟩) 0 0) [] := OwnE.empty w3 hg.size
            have hgE : w3.grownBy (w3.alloc (.cells #[] 62)).drew none := gb_drew (World.grownBy_alloc w3 _ none)
            have hT := (hre3.new hgE).take (Nat.le_of_lt hkm)
            have hEl : OwnE (w3.alloc (.cells #[] 62)).drew w3.heap.size (.slice (some ⟨w3.heap.size, 0, none⟩) 0 0) [] := OwnE.empty w3 (Nat.le_refl _)
            go_region_law (first
              | (refine step_extend_ents (w := (w3.alloc (.cells #[] 62)).drew) (base := w3.heap.size) (v := .slice (some ⟨w3.heap.size, 0, none⟩) 0 0) (l0 := []) (l := es.take k) (g := g) (ox := o) (c := c2) (.tmp 45) (.tmp 48) rfl rfl k hEl hT hlenT hgE.size rfl rfl ?_; intro v4 w4 ho4 hg4; have hg5 := hEl.gb hgE hg4 (Nat.le_refl _); have ho4 : OwnE w4 w3.heap.size v4 (es.take k) := ho4; have hD4 := hDr w4 hg5; obtain ⟨A4, n4, d4, rfl⟩ := ho4.re.val)
              | (refine step_extend_ents (w := w4) (base := w3.heap.size) (v := .slice A4 n4 d4) (l0 := es.take k) (l := es.drop (k + 1)) (g := g) (ox := ox) (c := c2 - (k + 1)) (.tmp 49) (.tmp 53) rfl rfl (m - (k + 1)) ho4 hD4 hlenD hg5.size rfl (by simp [Act.eval, Act.put]) ?_; intro v6 w6 ho6 hg6; have hg7 := ho4.gb hg5 hg6 (Nat.le_refl _)))
            all_goals
              go_wp2_with fail
              go_meet
              exact ⟨_, rfl, ho6.low hg.size, hg7⟩
          case rest =>
            obtain ⟨v5, rfl, ho5, hg5⟩ := hcut
            obtain ⟨wk, rfl⟩ : ∃ wk : World, wk = wc := ⟨_, rfl⟩
            go_upto_region 10 with fail
            go_cut [10] (fun x wx => ∃ v9, x = v9 ∧ OwnE wx wk.heap.size v9 (es.take (k + 1) ++ es.drop k) ∧ wk.grownBy wx none)
            case first =>
              have hre5 := hre3.new hg5
              have hE : OwnE (wk.alloc (.cells #[] 62)).drew wk.heap.size (.slice (some ⟨wk.heap.size, 0, none⟩) 0 0) [] := OwnE.empty wk (Nat.le_refl _)
              have hgE : wk.grownBy (wk.alloc (.cells #[] 62)).drew none := gb_drew (World.grownBy_alloc wk _ none)
              have hT := (hre5.new hgE).take hk1
              have hck : ¬ c2 = k := by omega
              go_region_law (first
                | (refine step_extend_ents (w := (wk.alloc (.cells #[] 62)).drew) (base := wk.heap.size) (v := .slice (some ⟨wk.heap.size, 0, none⟩) 0 0) (l0 := []) (l := es.take (k + 1)) (g := g) (ox := o) (c := c2) (.tmp 55) (.tmp 59) rfl rfl (k + 1) hE hT hlenT2 hgE.size rfl (by simp [Act.eval, Act.put]) ?_; intro v4 w4 ho4 hg4; have hg6 := hE.gb hgE hg4 (Nat.le_refl _); have ho4 : OwnE w4 wk.heap.size v4 (es.take (k + 1)) := ho4; have hD4 := (hre5.new hg6).drop (Nat.le_of_lt hkm); obtain ⟨A4, n4, d4, rfl⟩ := ho4.re.val)
                | (refine step_extend_ents (w := w4) (base := wk.heap.size) (v := .slice A4 n4 d4) (l0 := es.take (k + 1)) (l := es.drop k) (g := g) (ox := o + k * 3) (c := c2 - k) (.tmp 60) (.tmp 63) rfl rfl (m - k) ho4 hD4 hlenD2 hg6.size rfl (by simp [Act.eval, Act.put]) ?_; intro v6 w6 ho6 hg7; have hg8 := ho4.gb hg6 hg7 (Nat.le_refl _)))
              all_goals
                go_wp2_with fail
                go_meet
                exact ⟨_, rfl, ho6, hg8⟩
            case rest =>
              obtain ⟨v9, rfl, ho9, hg9⟩ := hcut
              have hx := ho5.re.new hg9
              have hy := ho9.re
              have Hpx : Hid (cacheValid (es.take k ++ es.drop (k + 1)) = true) := by have := part_valid Hv.out k; rw [List.nil_append] at this; exact this
              have Hpy : Hid (cacheValid (es.take (k + 1) ++ es.drop k) = false) := by have := twice_invalid hkes; rw [List.nil_append] at this; exact this
              have hgz := gb_trans (gb_trans hg hg5) hg9
              clear ho5 ho9 hDr hox hmod hw1
              have hx1 := hx
              have hy1 := hy
              obtain ⟨A5, n5, d5, rfl⟩ := hx.val
              obtain ⟨A6, n6, d6, rfl⟩ := hy.val
              clear hx hy
              go_wp2_with fail
              refine (implCacheValid_b _ _ _ hx1 Hpx.out).mono ?_
              rintro e w7 ⟨rfl, hg10⟩
              go_wp2_with fail
              refine (implCacheValid_b _ _ _ (hy1.new hg10) Hpy.out).mono ?_
              rintro e w8 ⟨rfl, hg11⟩
              go_wp2_with fail
              go_ret
              exact ⟨rfl, gb_trans (gb_trans hgz hg10) hg11⟩
      · have hv' : cacheValid es = false := by simpa using hv
        have Hv := Lib.hid hv'
        clear hv hv' hm
        go_wp2_with fail
        refine (implCacheValid_b _ es _ hre1 Hv.out).mono ?_
        rintro e w2 ⟨rfl, hg2⟩
        go_wp2_with fail
        refine (specCacheValid_b _ es _ (hre1.new hg2) Hv.out).mono ?_
        rintro e w3 ⟨rfl, hg3⟩
        go_wp2_with fail
        go_ret
        exact ⟨rfl, gb_trans (gb_trans hg1 hg2) hg3⟩
end Go.Proofs.Ytjlnhijabdkagaa
