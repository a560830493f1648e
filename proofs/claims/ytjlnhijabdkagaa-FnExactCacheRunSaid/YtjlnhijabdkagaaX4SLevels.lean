/- Walks: spec.l5Levels, spec.LevelsOf, spec.CountWide. -/
import Derived.Test.YtjlnhijabdkagaaC1Spec
import Derived.Test.YtjlnhijabdkagaaA10Wide
import Derived.Test.YtjlnhijabdkagaaA9Deep
namespace Go.Proofs.Ytjlnhijabdkagaa
open Go.RowKit

def IntsOut (w : World) (l : List Int) (e : Ending) (w' : World) : Prop := ∃ v', e = .returned v' ∧ OwnI w' w.heap.size v' l ∧ w.grownBy w' none
theorem foldl_snoc_int (f : Int → Int → Int) (l : List Int) (k : Nat) (b x : Int) (h : l[k]? = some x) : (l.take (k + 1)).foldl f b = f ((l.take k).foldl f b) x := by
  obtain ⟨hk, rfl⟩ := List.getElem?_eq_some_iff.1 h
  rw [List.take_succ_eq_append_getElem hk, List.foldl_append]
  rfl
set_option maxHeartbeats 400000 in
theorem l5Levels_any (v : Value) (plan : List Node) (w : World) (h : RN w v plan) (hv : planValid plan = true) :
    Calls Try.prog 126 #[v] w (IntsOut w (levels plan)) := by
  obtain ⟨A, n, c, rfl, -, hn, -⟩ := h.form'
  have hn10 : n ≤ 10 := by have := planValid_len hv; omega
  have Hn := Lib.hid hn
  have Hv := Lib.hid hv
  clear hn hv
  go_enter Try.func126, Try.ntmps126
  go_wp2_with fail
  go_loopg [3, 4] (n + 1) (fun m o i wr => ∃ k : Nat, k ≤ n ∧ m = n + 1 - k ∧ i = .int .i64 k ∧ OwnI wr w.heap.size o (levelsTo plan k) ∧ w.grownBy wr none)
  case atStart => exact ⟨0, Nat.zero_le _, rfl, rfl, OwnI.empty w (Nat.le_refl _), World.grownBy_alloc _ _ _⟩
  case round =>
    obtain ⟨k, hk, rfl, rfl, ho, hg⟩ := hrel
    have hlk : (levelsTo plan k).length = k := levelsTo_len (by rw [← Hn.out]; exact hk)
    have Hlk := Lib.hid hlk
    obtain ⟨Ao, no, co, rfl⟩ := ho.ri.val
    have hno : no = (levelsTo plan k).length := ho.ri.len
    rw [hlk] at hno
    subst hno
    clear hlk
    by_cases hlt : no < n
    · obtain ⟨g, o, nd, f, r, rfl, hx, c0, c1, c2, hf, hr⟩ := (h.new hg).at_ hlt
      obtain ⟨Af, nf, cf, rfl, -, hnf⟩ := hf.form'
      have hfit := planValid_node Hv.out hx
      have hnf2 : nf ≤ 2 := by have := hfit.2.1; omega
      have Hnf := Lib.hid hnf
      have Hx := Lib.hid hx
      have Hfit := Lib.hid hfit
      clear hnf hx hfit c0 c2 hr
      obtain ⟨wo, rfl⟩ : ∃ wo : World, wo = wr := ⟨_, rfl⟩
      go_wp2_with fail
      go_loopg [5, 6] (nf + 1) (fun m s i wx => ∃ (t : Nat) (z : Int), t ≤ nf ∧ m = nf + 1 - t ∧ i = .int .i64 t ∧ s = .int .i64 z ∧ 0 ≤ z ∧ z ≤ 20 ∧ Hid (z = (nd.frm.take t).foldl (fun n f => max n ((levelsTo plan no).getD f.toNat 0 + 1)) 0) ∧ wx = wo)
      case atStart => exact ⟨0, 0, Nat.zero_le _, rfl, rfl, rfl, by omega, by omega, rfl, rfl⟩
      case round =>
        obtain ⟨t, z, ht, rfl, rfl, rfl, hz0, hz1, Hz, hwx⟩ := hrel
        subst hwx
        by_cases htf : t < nf
        · obtain ⟨g1, o1, x, rfl, hx1, d0⟩ := hf.at_ htf
          have hxb := nodeFits_mem Hfit.out.1 (List.mem_of_getElem? hx1)
          obtain ⟨q, rfl⟩ := Int.eq_ofNat_of_zero_le hxb.1
          have hq : q < no := by omega
          obtain ⟨g2, o2, y, rfl, hy, d1⟩ := ho.ri.at_ hq
          have hyv : y = lv plan q := by
            have e := levelsTo_lv (plan := plan) (k := no) (i := q) (by rw [← Hn.out]; omega) hq
            rw [List.getD_eq_getElem?_getD, hy] at e
            exact e
          have hy0 : 0 ≤ y := by rw [hyv]; exact lv_nonneg Hv.out q
          have hy1 : y ≤ 10 := by have := lv_le Hv.out q; omega
          have Hz2 : Hid (max z (y + 1) = (nd.frm.take (t + 1)).foldl (fun n f => max n ((levelsTo plan no).getD f.toNat 0 + 1)) 0) := by
            show _ = _
            rw [foldl_snoc_int _ _ _ _ _ hx1, ← Hz.out]
            simp only [Int.toNat_natCast, List.getD_eq_getElem?_getD, hy, Option.getD_some]
          clear hx1 hxb hy hyv
          obtain ⟨mx, Hmx, hcase⟩ : ∃ mx, Hid (max z (y + 1) = mx) ∧ ((z < y + 1 ∧ mx = y + 1) ∨ (y + 1 ≤ z ∧ mx = z)) := ⟨_, rfl, by omega⟩
          rw [Hmx.out] at Hz2
          clear Hmx
          rcases hcase with ⟨hc, rfl⟩ | ⟨hc, rfl⟩
          all_goals
            go_wp2_with fail
            go_roundg (nf + 1 - (t + 1))
            case measure => omega
            case rel => exact ⟨t + 1, _, by omega, rfl, by go_num, rfl, by omega, by omega, Hz2, rfl⟩
        · obtain rfl : t = nf := by omega
          have Hl : Hid (levelsTo plan (no + 1) = levelsTo plan no ++ [z]) := by
            show _ = _
            rw [levelsTo_succ Hx.out, Hz.out, List.take_of_length_le (by rw [← Hnf.out]; exact Nat.le_refl _)]
            rfl
          clear Hz
          go_wp2_with (at_builtin; go_must (refine wp_push_int (.tmp 38) (.tmp 40) rfl rfl ho (by rw [Hlk.out]; omega) hg.size rfl rfl ?_))
          intro v' w4 hown4 hg4
          have hg5 := ho.gb hg hg4 (Nat.le_refl _)
          rw [← Hl.out] at hown4
          go_wp2_with fail
          go_roundg (n + 1 - (no + 1))
          case measure => omega
          case rel => exact ⟨no + 1, by omega, rfl, by go_num, hown4, hg5⟩
    · obtain rfl : no = n := by omega
      have ho2 : OwnI wr w.heap.size (.slice Ao no co) (levels plan) := by
        unfold levels
        rw [← Hn.out]
        exact ho
      clear ho
      go_wp2_with fail
      go_ret
      exact ⟨_, rfl, ho2, hg⟩
def ListsOut (w : World) (ll : List (List Int)) (e : Ending) (w' : World) : Prop := ∃ v', e = .returned v' ∧ OwnL w' w.heap.size v' ll ∧ w.grownBy w' none
set_option maxHeartbeats 400000 in
theorem specLevelsOf_any (v : Value) (plan : List Node) (w : World) (h : RN w v plan) (hl : plan.length ≤ 1000000000) :
    Calls Try.prog 88 #[v] w (ListsOut w (levelsOf plan)) := by
  obtain ⟨A, n, c, rfl, -, hn, -⟩ := h.form'
  have Hn := Lib.hid hn
  clear hn
  by_cases hv : planValid plan = true
  · have Hv := Lib.hid hv
    have hn10 : n ≤ 10 := by have := planValid_len hv; rw [← Hn.out] at this; exact this
    clear hv
    go_enter Try.func88, Try.ntmps88
    go_wp2_with fail
    refine (specPlanValid_b _ plan _ (h.alloc _) hl Hv.out).mono ?_
    rintro e w1 ⟨rfl, hg1⟩
    have hO1 := (OwnL.empty w (Nat.le_refl _)).new hg1
    have hg1 := gb_trans (World.grownBy_alloc w (.cells #[] 27) none) hg1
    go_wp2_with fail
    refine (l5Levels_any _ plan w1 (h.new hg1) Hv.out).mono ?_
    rintro e w2 ⟨v2, rfl, ho2, hg2⟩
    obtain ⟨A2, n2, c2, rfl, -, hn2⟩ := ho2.ri.form'
    rw [levels_len, ← Hn.out] at hn2
    subst hn2
    have hO2 := hO1.new hg2
    have hg2 := gb_trans hg1 hg2
    have hri := ho2.ri
    clear hO1 hg1 ho2
    go_wp2_with fail
    go_loopg [3, 5] (n2 + 1) (fun m o i wr => ∃ k : Nat, k ≤ n2 ∧ m = n2 + 1 - k ∧ i = .int .i64 k ∧ OwnL wr w.heap.size o (someRows plan k) ∧ w.grownBy wr none ∧ RI wr (.slice A2 n2 c2) (levels plan))
    case atStart => exact ⟨0, Nat.zero_le _, rfl, rfl, hO2, hg2, hri⟩
    case round =>
      clear hO2 hg2 hri
      obtain ⟨k, hk, rfl, rfl, hO, hg, hri⟩ := hrel
      obtain ⟨Ao, no, co, rfl⟩ := hO.rl.val
      have hol : (someRows plan k).length ≤ 10 := by
        rw [someRows_eq Hv.out, List.length_map, List.length_range]
        omega
      by_cases hlt : k < n2
      · obtain ⟨wo, rfl⟩ : ∃ wo : World, wo = wr := ⟨_, rfl⟩
        go_wp2_with fail
        go_loopg [6, 7] (n2 + 1) (fun m r i wx => ∃ t : Nat, t ≤ n2 ∧ m = n2 + 1 - t ∧ i = .int .i64 t ∧ OwnI wx wo.heap.size r ((onLevel plan t k).map (fun i : Nat => (i : Int))) ∧ wo.grownBy wx none)
        case atStart => exact ⟨0, Nat.zero_le _, rfl, rfl, OwnI.empty wo (Nat.le_refl _), World.grownBy_alloc _ _ _⟩
        case round =>
          obtain ⟨t, ht, rfl, rfl, ho, hgx⟩ := hrel
          obtain ⟨Ar, nr, cr, rfl⟩ := ho.ri.val
          have hrl : ((onLevel plan t k).map (fun i : Nat => (i : Int))).length ≤ 10 := by
            have := onLevel_len plan t k
            rw [List.length_map]
            omega
          by_cases htl : t < n2
          · obtain ⟨g, o, x, rfl, hx, c0⟩ := (hri.new hgx).at_ htl
            rw [levels_get (by rw [← Hn.out]; exact htl)] at hx
            injection hx with hx
            by_cases hxk : x = k
            · have Hr : Hid ((onLevel plan (t + 1) k).map (fun i : Nat => (i : Int)) = (onLevel plan t k).map (fun i : Nat => (i : Int)) ++ [(t : Int)]) := by
                show _ = _
                rw [onLevel_succ, if_pos (by rw [hx]; exact hxk), List.map_append]
                rfl
              subst hxk
              clear hx
              go_wp2_with (at_builtin; go_must (refine wp_push_int (.tmp 34) (.tmp 36) rfl rfl ho (by omega) hgx.size rfl rfl ?_))
              intro v' w4 hown4 hg4
              have hg5 := ho.gb hgx hg4 (Nat.le_refl _)
              rw [← Hr.out] at hown4
              go_wp2_with fail
              go_roundg (n2 + 1 - (t + 1))
              case measure => omega
              case rel => exact ⟨t + 1, by omega, rfl, by go_num, hown4, hg5⟩
            · have Hr : Hid ((onLevel plan (t + 1) k).map (fun i : Nat => (i : Int)) = (onLevel plan t k).map (fun i : Nat => (i : Int))) := by
                show _ = _
                rw [onLevel_succ, if_neg (by rw [hx]; exact hxk)]
              have hb : (x == (k : Int)) = false := by simpa using hxk
              clear hx hxk
              go_wp2_with fail
              go_roundg (n2 + 1 - (t + 1))
              case measure => omega
              case rel => exact ⟨t + 1, by omega, rfl, by go_num, by rw [Hr.out]; exact ho, hgx⟩
          · obtain rfl : t = n2 := by omega
            have hOx := hO.new hgx
            have hgw2 := gb_trans hg hgx
            have hri3 := hri.new hgx
            have hor : OwnI wr wo.heap.size (.slice Ar nr cr) (levelRow plan k) := by
              unfold levelRow
              rw [← Hn.out]
              exact ho
            have hnr : nr = (levelRow plan k).length := hor.ri.len
            have Hr := Lib.hid (someRows_succ plan k)
            have hrl2 : (levelRow plan k).length ≤ 10 := by rw [← hnr]; rw [ho.ri.len]; exact hrl
            clear ho hgx hO hg hri hrl
            by_cases hpos : 0 < nr
            · have Hr2 : Hid (someRows plan (k + 1) = someRows plan k ++ [levelRow plan k]) := by
                show _ = _
                rw [Hr.out, if_pos (by rw [← hnr]; exact hpos)]
              clear Hr hnr
              go_wp2_with (at_builtin; go_must (refine wp_push_list (.tmp 41) (.tmp 43) rfl rfl hOx hor.ri (by omega) hgw2.size rfl rfl ?_))
              intro v' w4 hown4 hg4
              have hg5 := hOx.gb hgw2 hg4 (Nat.le_refl _)
              have hri4 := hri3.grown hg4 (hOx.notE (by decide))
              rw [← Hr2.out] at hown4
              go_wp2_with fail
              go_roundg (t + 1 - (k + 1))
              case measure => omega
              case rel => exact ⟨k + 1, by omega, rfl, by go_num, hown4, hg5, hri4⟩
            · have Hr2 : Hid (someRows plan (k + 1) = someRows plan k) := by
                show _ = _
                rw [Hr.out, if_neg (by rw [← hnr]; exact hpos)]
              obtain rfl : nr = 0 := by omega
              clear Hr hnr hpos
              go_wp2_with fail
              go_roundg (t + 1 - (k + 1))
              case measure => omega
              case rel => exact ⟨k + 1, by omega, rfl, by go_num, by rw [Hr2.out]; exact hOx, hgw2, hri3⟩
      · obtain rfl : k = n2 := by omega
        have hO2 : OwnL wr w.heap.size (.slice Ao no co) (levelsOf plan) := by
          rw [← someRows_all Hv.out, ← Hn.out]
          exact hO
        clear hO
        go_wp2_with fail
        go_ret
        exact ⟨_, rfl, hO2, hg⟩
  · have hv' : planValid plan = false := by simpa using hv
    have Hv := Lib.hid hv'
    have Hr : Hid (levelsOf plan = []) := by show levelsOf plan = _; unfold levelsOf; rw [if_neg hv]
    clear hv hv'
    go_enter Try.func88, Try.ntmps88
    go_wp2_with fail
    refine (specPlanValid_b _ plan _ (h.alloc _) hl Hv.out).mono ?_
    rintro e w1 ⟨rfl, hg1⟩
    go_wp2_with fail
    go_ret
    exact ⟨_, rfl, by rw [Hr.out]; exact (OwnL.empty w (Nat.le_refl _)).new hg1, gb_trans (World.grownBy_alloc w _ none) hg1⟩
end Go.Proofs.Ytjlnhijabdkagaa
