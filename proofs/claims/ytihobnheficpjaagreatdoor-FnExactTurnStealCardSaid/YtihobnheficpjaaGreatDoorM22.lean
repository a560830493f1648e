/- Walks: the table's set and take. · Walks: the table's take; impl.CountsOf, impl.CountsDone. · Walks: impl.CountsOf, impl.CountsDone. -/
import Derived.Test.YtihobnheficpjaaGreatDoorM15
import Derived.Test.YtihobnheficpjaaGreatDoorM21
import Derived.Test.YtihobnheficpjaaGreatDoorM04
namespace Go.Proofs.YtihobnheficpjaaGreatDoor
open Go.RowKit

def tabFit (f : Nat → Int) (n : Nat) (cs : List Int) : Prop := cs.length = n ∧ ∀ i c, cs[i]? = some c → 0 ≤ c ∧ c ≤ f i
def SetOut (w : World) (tb : Nat) (f : Nat → Int) (n : Nat) (cs : List Int) (e : Ending) (w' : World) : Prop :=
  (tabFit f n cs ∧ e = .returned (.bool true) ∧ TT w' tb (laidN f cs) n ∧ w.grownBy w' (some tb)) ∨ (¬ tabFit f n cs ∧ e = .returned (.bool false) ∧ w.grownBy w' none)
set_option maxHeartbeats 1600000 in
set_option maxRecDepth 20000 in
theorem tabSet_any (tb n : Nat) (f : Nat → Int) (cv : Value) (cs : List Int) (w : World) (h : TT w tb f n) (hn : n ≤ 10) (hc : RI w cv cs) : Calls Tryz.prog 65 #[.pointer (some ⟨tb, 0, none⟩), cv] w (SetOut w tb f n cs) := by
  obtain ⟨A, m, c, rfl, hmc, hm⟩ := hc.form'
  have hsz := h.size
  have Hm := Lib.hid hm
  by_cases hmn : m = n
  · subst hmn
    clear hm
    go_enter Tryz.func65, Tryz.ntmps65
    go_wp2_with fail
    go_loopg [16] (m + 1) (fun mm i wr => ∃ k : Nat, k ≤ m ∧ mm = m + 1 - k ∧ i = .int .i64 k ∧ w.grownBy wr none ∧ Hid (∀ i c, i < k → cs[i]? = some c → 0 ≤ c ∧ c ≤ f i))
    case atStart => exact ⟨0, Nat.zero_le _, rfl, rfl, gb_refl _ _, fun i c hi => absurd hi (Nat.not_lt_zero _)⟩
    case round =>
      obtain ⟨k, hk, rfl, rfl, hg, Hk⟩ := hrel
      have T := h.new hg
      have hr := hc.new hg
      by_cases hlt : k < m
      · obtain ⟨gu, ou, x, rfl, hx, c0⟩ := hr.at_ hlt
        have hz := T.cell (u := k) (by omega)
        have Hx := Lib.hid hx
        clear hx
        obtain ⟨y, hy⟩ : ∃ y, y = f k := ⟨_, rfl⟩
        rw [← hy] at hz
        have Hy := Lib.hid hy
        clear hy hsz
        by_cases h1 : x < 0
        · have hno : Hid (¬ tabFit f m cs) := fun e => by have := (e.2 k x Hx.out).1; omega
          clear T hr h hc
          go_wp2_with fail
          go_ret
          exact .inr ⟨hno.out, rfl, hg⟩
        · by_cases h2 : y < x
          · have hno : Hid (¬ tabFit f m cs) := fun e => by have := (e.2 k x Hx.out).2; have := Hy.out; omega
            clear T hr h hc
            go_wp2_with fail
            go_ret
            exact .inr ⟨hno.out, rfl, hg⟩
          · go_wp2_with fail
            go_roundg (m + 1 - (k + 1))
            case measure => omega
            case rel => exact ⟨k + 1, by omega, rfl, by go_num, hg, fun i c hi hc' => by
              by_cases e : i = k
              · subst e
                rw [Hx.out] at hc'
                injection hc' with hc'
                subst hc'
                have := Hy.out
                omega
              · exact Hk.out i c (by omega) hc'⟩
      · obtain rfl : m = k := by omega
        have hfit : Hid (tabFit f m cs) := ⟨Hm.out.symm, fun i c hc' => Hk.out i c (by have := (List.getElem?_eq_some_iff.1 hc').1; have := Hm.out; omega) hc'⟩
        have hl : cs.length ≤ 10 := by have := Hm.out; omega
        clear hsz Hk hk
        go_wp2_with (with_reducible refine wp_copy_tab (.tmp 37) (.tmp 38) rfl rfl T hr hl rfl rfl ?_)
        intro z w2 T2 hg2
        go_wp2_with fail
        go_ret
        exact .inl ⟨hfit.out, rfl, T2, gb_trans (gb_some hg _) hg2⟩
  · have hb : ((m : Int) == (n : Int)) = false := by simp only [beq_eq_false_iff_ne, ne_eq]; omega
    have hno : Hid (¬ tabFit f n cs) := fun e => hmn (by rw [hm]; exact e.1)
    clear hm hmn
    go_enter Tryz.func65, Tryz.ntmps65
    go_wp2_with fail
    go_ret
    exact .inr ⟨hno.out, rfl, gb_refl _ _⟩
end Go.Proofs.YtihobnheficpjaaGreatDoor
namespace Go.Proofs.YtihobnheficpjaaGreatDoor
open Go.RowKit

/-- Taking: stopped at a count of zero, or each count one less and those that became zero told. -/
def TakeOut (w : World) (tb : Nat) (f : Nat → Int) (n : Nat) (us : List Nat) (e : Ending) (w' : World) : Prop :=
  ((∃ (t u : Nat), us[t]? = some u ∧ f u = 0) ∧ e = .returned (.tuple #[.slice none 0 0, .bool false]) ∧ w.grownBy w' (some tb)) ∨
  ((∀ u ∈ us, f u ≠ 0) ∧ ∃ v, e = .returned (.tuple #[v, .bool true]) ∧ OwnI w' w.heap.size v (zeroed f us us.length) ∧ TT w' tb (takenTo f us us.length) n ∧ w.grownBy w' (some tb))
set_option maxHeartbeats 1600000 in
set_option maxRecDepth 20000 in
theorem tabTake_any (tb n : Nat) (f : Nat → Int) (uv : Value) (us : List Nat) (w : World) (h : TT w tb f n) (hn : n ≤ 10) (hu : RI w uv (us.map (fun j : Nat => (j : Int)))) (hus : ∀ u ∈ us, u < n) (hnd : us.Nodup) (hf : ∀ u ∈ us, 0 ≤ f u ∧ f u ≤ 1000) :
    Calls Tryz.prog 66 #[.pointer (some ⟨tb, 0, none⟩), uv] w (TakeOut w tb f n us) := by
  obtain ⟨A, m, c, rfl, hmc, hm⟩ := hu.form'
  have hm' : m = us.length := by rw [hm, List.length_map]
  have Hm := Lib.hid hm'
  have hm10 : m ≤ 10 := by
    have h1 : us.length ≤ n := nodup_len_le hnd hus
    omega
  have Hus := Lib.hid hus
  have Hnd := Lib.hid hnd
  have Hf := Lib.hid hf
  have hI0 := h.ne (E := 3) (by decide)
  have htw : tb < w.heap.size := Blk.lt h
  clear hm hm' hus hnd hf
  have T0 : TT w tb (takenTo f us 0) n := by rw [takenTo_zero]; exact h
  go_enter Tryz.func66, Tryz.ntmps66
  go_wp2_with fail
  go_loopg [6, 11] (m + 1) (fun mm r i wr => ∃ t : Nat, t ≤ m ∧ mm = m + 1 - t ∧ i = .int .i64 t ∧ OwnI wr w.heap.size r (zeroed f us t) ∧ TT wr tb (takenTo f us t) n ∧ w.grownBy wr (some tb) ∧ Hid (∀ i u, i < t → us[i]? = some u → f u ≠ 0))
  case atStart => exact ⟨0, Nat.zero_le _, rfl, rfl, by exact OwnI.nil w _, T0, gb_refl _ _, fun i c hi => absurd hi (Nat.not_lt_zero _)⟩
  case round =>
    clear T0 h
    obtain ⟨t, ht, rfl, rfl, ho, T, hg, Hz⟩ := hrel
    obtain ⟨Ar, nr, cr, rfl⟩ := ho.ri.val
    have hr := hu.grown hg hI0
    by_cases hlt : t < m
    · obtain ⟨gu, ou, x, rfl, hx, c0⟩ := hr.at_ hlt
      rw [List.getElem?_map] at hx
      obtain ⟨u, hut, rfl⟩ := Option.map_eq_some_iff.1 hx
      have hun := Hus.out u (List.mem_of_getElem? hut)
      have hu10 : u < 10 := by omega
      have hz := T.cell hu10
      rw [takenTo_at Hnd.out hut] at hz
      have hzf := T.frozen u
      have hfu := Hf.out u (List.mem_of_getElem? hut)
      have T2 := T.put hu10 (f u - 1)
      rw [← takenTo_succ Hnd.out hut] at T2
      have hst : wr.grownBy (wr.setCell ⟨tb, u, none⟩ (.int .i64 (f u - 1))) (some tb) := gb_set (gb_refl _ _) (.inr rfl) _
      have ho2 := ho.grown hst (T.ne (by decide))
      have g2 := gb_trans hg hst
      have hz2 := T2.cell hu10
      have Hut := Lib.hid hut
      have hzl := zeroed_len f us t
      have Hzs : Hid (zeroed f us (t + 1) = zeroed f us t ++ (if f u = 1 then [(u : Int)] else [])) := zeroed_succ hut
      have Htk : Hid (takenTo f us (t + 1) u = f u - 1) := by
        show _ = _
        rw [takenTo_succ Hnd.out hut]
        unfold putN
        rw [if_pos rfl]
      rw [Htk.out] at hz2
      obtain ⟨y, hy⟩ : ∃ y, y = f u := ⟨_, rfl⟩
      rw [← hy] at hz hfu T2 hst ho2 g2 hz2 Hzs
      have Hy := Lib.hid hy
      clear hx hut hy Htk
      by_cases h0 : y = 0
      · subst h0
        have hno : Hid (∃ (t u : Nat), us[t]? = some u ∧ f u = 0) := ⟨t, u, Hut.out, Hy.out.symm⟩
        clear T T2 ho ho2 hst g2 hz2 Hzs
        go_wp2_with fail
        refine bodyPost_ret (v := .tuple #[.slice none 0 0, .bool false]) (by simp [results, Tryz.results66, go_sem]) rfl ?_
        exact .inl ⟨hno.out, rfl, hg⟩
      · have hb0 : (y == 0) = false := by simpa using h0
        have Hz2 : Hid (∀ i v, i < t + 1 → us[i]? = some v → f v ≠ 0) := by
          intro i v hi hv
          by_cases e : i = t
          · subst e
            rw [Hut.out] at hv
            injection hv with hv
            subst hv
            rw [← Hy.out]
            exact h0
          · exact Hz.out i v (by omega) hv
        have hw1 : IntKind.i64.wrap (y - 1) = y - 1 := IntWalk.i64_in _ (by omega)
        go_upto_region 8 with fail
        go_cut [] (fun wx => OwnI wx w.heap.size (.slice Ar nr cr) (zeroed f us t) ∧ TT wx tb (takenTo f us (t + 1)) n ∧ w.grownBy wx (some tb) ∧ wx.cell? ⟨tb, u, none⟩ = some (.int .i64 (y - 1)))
        case first =>
          go_region
          all_goals
            go_wp2_with fail
            go_meet
            exact ⟨ho2, T2, by first | exact g2 | exact gb_drew g2, hz2⟩
        case rest =>
          obtain ⟨ho3, T3, g3, hz3⟩ := hcut
          clear T ho T2 ho2 hst g2 hz2 hz hzf hg hr c0
          by_cases h1 : y = 1
          · subst h1
            have Hzs2 : Hid (zeroed f us (t + 1) = zeroed f us t ++ [(u : Int)]) := Hzs.out
            clear Hzs
            go_wp2_with (at_builtin; go_must (refine wp_push_int_n (.tmp 39) (.tmp 41) rfl rfl ho3 (by omega) (Nat.le_of_lt (Nat.lt_of_lt_of_le htw g3.size) |> fun _ => g3.size) rfl rfl rfl ?_))
            intro v5 w5 ho5 hg5
            have T5 : TT w5 tb (takenTo f us (t + 1)) n := Blk.past T3 hg5 (ho3.notE (by decide))
            have g5 := gb_new g3 hg5 (fun g e => .inl (ho3.lt g e).1)
            rw [← Hzs2.out] at ho5
            obtain ⟨A5, n5, c5, rfl⟩ := ho5.ri.val
            go_wp2_with fail
            go_roundg (m + 1 - (t + 1))
            case measure => omega
            case rel => exact ⟨t + 1, by omega, rfl, by go_num, ho5, T5, g5, Hz2⟩
          · have hb1 : (y - 1 == 0) = false := by simp only [beq_eq_false_iff_ne, ne_eq]; omega
            have Hzs2 : Hid (zeroed f us (t + 1) = zeroed f us t) := by
              show _ = _
              rw [Hzs.out, if_neg h1, List.append_nil]
            rw [← Hzs2.out] at ho3
            clear Hzs
            go_wp2_with fail
            go_roundg (m + 1 - (t + 1))
            case measure => omega
            case rel => exact ⟨t + 1, by omega, rfl, by go_num, ho3, T3, g3, Hz2⟩
    · obtain rfl : m = t := by omega
      have hall : Hid (∀ u ∈ us, f u ≠ 0) := by
        intro u hu'
        obtain ⟨i, hi, rfl⟩ := List.getElem_of_mem hu'
        exact Hz.out i _ (by have := Hm.out; omega) (List.getElem?_eq_getElem hi)
      have HH := Lib.hid ho
      have HT := Lib.hid T
      clear ho T
      go_wp2_with fail
      refine bodyPost_ret (v := .tuple #[.slice Ar nr cr, .bool true]) (by simp [results, Tryz.results66, go_sem]) rfl ?_
      exact .inr ⟨hall.out, _, rfl, by rw [← Hm.out]; exact HH.out, by rw [← Hm.out]; exact HT.out, hg⟩
end Go.Proofs.YtihobnheficpjaaGreatDoor
namespace Go.Proofs.YtihobnheficpjaaGreatDoor
open Go.RowKit

/-- What CountsDone gives. -/
def CDOut (w : World) (r : Option (List Int × List Int)) (e : Ending) (w' : World) : Prop := match r with
  | some (k, r) => ∃ kv rv, e = .returned (.tuple #[kv, rv, .bool true]) ∧ OwnI w' w.heap.size kv k ∧ OwnI w' w.heap.size rv r ∧ w.grownBy w' none
  | none => e = .returned (.tuple #[.slice none 0 0, .slice none 0 0, .bool false]) ∧ w.grownBy w' none
theorem cd_bad {plan : List Node} {cs : List Int} {x : Int} (h : planValid plan = false) : countsDone plan cs x = none := by unfold countsDone; rw [h]; rfl
theorem cd_out {plan : List Node} {cs : List Int} {x : Int} (h : (decide (0 ≤ x) && decide (x < plan.length)) = false) : countsDone plan cs x = none := by unfold countsDone; rw [h, Bool.and_false]; rfl
theorem cd_unfit {plan : List Node} (hv : planValid plan = true) {cs : List Int} {x : Int} (h : ¬ tabFit (tabTo plan plan.length) plan.length cs) : countsDone plan cs x = none := by
  unfold countsDone
  by_cases hl : cs.length = plan.length
  · have : ∃ i c, cs[i]? = some c ∧ ¬ (0 ≤ c ∧ c ≤ tabTo plan plan.length i) := by
      apply Classical.byContradiction
      intro hno
      refine h ⟨hl, fun i c hc => ?_⟩
      apply Classical.byContradiction
      intro h2
      exact hno ⟨i, c, hc, h2⟩
    obtain ⟨i, c, hc, h2⟩ := this
    rw [tabTo_all hv] at h2
    have hi := (List.getElem?_eq_some_iff.1 hc).1
    rw [countsFit_range (by omega) hc h2, Bool.and_false]
    rfl
  · rw [decide_eq_false hl, Bool.and_false]
    rfl
theorem laid_getD {f : Nat → Int} {cs : List Int} {u : Nat} (h : u < cs.length) : laidN f cs u = cs.getD u 0 := by
  rw [laidN_get (List.getElem?_eq_getElem h), List.getD_eq_getElem?_getD, List.getElem?_eq_getElem h]
  rfl
theorem cd_zero {plan : List Node} (hv : planValid plan = true) {cs : List Int} {x t u : Nat} {f : Nat → Int} (hl : cs.length = plan.length) (hu : (usersOf plan x)[t]? = some u) (hz : laidN f cs u = 0) : countsDone plan cs (x : Int) = none := by
  unfold countsDone
  have hm := ((users_has hv).1 (List.mem_of_getElem? hu)).1
  rw [countsFit_zero hv hu (by rw [← laid_getD (f := f) (by omega)]; exact hz), Bool.and_false]
  rfl
theorem cd_ok {plan : List Node} (hv : planValid plan = true) {cs : List Int} {x : Nat} (hx : x < plan.length) (hfit : tabFit (tabTo plan plan.length) plan.length cs) (hnz : ∀ u ∈ usersOf plan x, laidN (tabTo plan plan.length) cs u ≠ 0) :
    countsDone plan cs (x : Int) = some ((List.range plan.length).map (takenTo (laidN (tabTo plan plan.length) cs) (usersOf plan x) (usersOf plan x).length), zeroed (laidN (tabTo plan plan.length) cs) (usersOf plan x) (usersOf plan x).length) := by
  have hl := hfit.1
  have h1 : countsFit plan cs (x : Int) = true := countsFit_all hv hl (fun i c hc => by have := hfit.2 i c hc; rwa [tabTo_all hv] at this) (fun u hu => by
    have hm := ((users_has hv).1 hu).1
    rw [← laid_getD (f := tabTo plan plan.length) (by omega)]
    exact hnz u hu)
  unfold countsDone
  rw [taken_counts hv hl _ x _ (Nat.le_refl _), zeroed_ready hv hl _ x _ (Nat.le_refl _), if_pos]
  rw [hv, h1, decide_eq_true hl, decide_eq_true (Int.natCast_nonneg x), decide_eq_true (Int.ofNat_lt.2 hx)]
  rfl
theorem laid_small {plan : List Node} (hv : planValid plan = true) {cs : List Int} {x : Nat} (hfit : tabFit (tabTo plan plan.length) plan.length cs) : ∀ u ∈ usersOf plan x, 0 ≤ laidN (tabTo plan plan.length) cs u ∧ laidN (tabTo plan plan.length) cs u ≤ 1000 := by
  intro u hu
  have hm := ((users_has hv).1 hu).1
  have hl := hfit.1
  have hg : cs[u]? = some cs[u] := List.getElem?_eq_getElem (by omega)
  rw [laidN_get hg]
  have h1 := hfit.2 u _ hg
  have h2 := tabMid_in hv plan.length 0 u
  rw [tabMid_zero] at h2
  omega
theorem implCountsOf_any (v : Value) (plan : List Node) (w : World) (h : RN w v plan) (hv : planValid plan = true) : Calls Tryz.prog 108 #[v] w (IntsOut w (countsOf plan)) := by
  obtain ⟨A, n, c, rfl, -, -, -⟩ := h.form'
  go_enter Tryz.func108, Tryz.ntmps108
  go_wp2_with fail
  refine (implPlanValid_b _ plan _ h hv).mono ?_
  rintro e w1 ⟨rfl, hg1⟩
  have h1 := h.new hg1
  go_wp2_with fail
  refine (countTableOf_any _ plan _ h1 hv).mono ?_
  rintro e w2 ⟨tb, rfl, T, htb, hg2⟩
  go_wp2_with fail
  refine (tabList_any tb _ _ _ T (planValid_len hv)).mono ?_
  rintro e w3 ⟨v3, rfl, ho, hg3⟩
  have g2 := gb_trans hg1 hg2
  rw [tab_counts hv] at ho
  obtain ⟨A3, n3, c3, rfl⟩ := ho.ri.val
  go_wp2_with fail
  go_ret
  exact ⟨_, rfl, ho.lower g2.size, gb_trans g2 hg3⟩
set_option maxHeartbeats 1600000 in
set_option maxRecDepth 20000 in
theorem implCountsDone_any (v cv : Value) (plan : List Node) (cs : List Int) (x : Int) (w : World) (h : RN w v plan) (hc : RI w cv cs) : Calls Tryz.prog 22 #[v, cv, .int .i64 x] w (CDOut w (countsDone plan cs x)) := by
  obtain ⟨A, n, c, rfl, -, hn, -⟩ := h.form'
  obtain ⟨B, m, k, rfl⟩ := hc.val
  have Hn := Lib.hid hn
  clear hn
  have fin : ∀ w', w.grownBy w' none → countsDone plan cs x = none → CDOut w (countsDone plan cs x) (.returned (.tuple #[.slice none 0 0, .slice none 0 0, .bool false])) w' := fun w' hg hr => by rw [hr]; exact ⟨rfl, hg⟩
  by_cases hv : planValid plan = true
  · have Hv := Lib.hid hv
    have hl10 := planValid_len hv
    by_cases hin : 0 ≤ x ∧ x < (n : Int)
    · have Hin : Hid ((decide (0 ≤ x) && decide (x < (n : Int))) = true) := by show _ = _; simp [hin.1, hin.2]
      obtain ⟨x, rfl⟩ := Int.eq_ofNat_of_zero_le hin.1
      have hx : x < plan.length := by have := Hn.out; omega
      clear hv hin
      go_enter Tryz.func22, Tryz.ntmps22
      go_wp2_with fail
      refine (implPlanValid_b _ plan _ h Hv.out).mono ?_
      rintro e w1 ⟨rfl, hg1⟩
      go_wp2_with fail
      refine (isNode_b _ _ _ _ _ Hin.out).mono ?_
      rintro e w1' ⟨rfl, rfl⟩
      go_wp2_with fail
      refine (countTableOf_any _ plan w1 (h.new hg1) Hv.out).mono ?_
      rintro e w2 ⟨tb, rfl, T, htb, hg2⟩
      have g2 := gb_trans hg1 hg2
      have htb' : w.heap.size ≤ tb := Nat.le_trans hg1.size htb
      have hI := T.ne (E := 3) (by decide)
      have hN := T.ne (E := 94) (by decide)
      go_wp2_with fail
      refine (tabSet_any tb _ _ _ cs w2 T hl10 (hc.new g2)).mono ?_
      rintro e w3 (⟨hfit, rfl, T3, hg3⟩ | ⟨hfit, rfl, hg3⟩)
      · have g3 := gb_new g2 hg3 (fun g e => by cases e; exact .inl htb')
        have h3 := (h.new g2).grown hg3 hI hN
        have Hfit := Lib.hid hfit
        clear hfit hg1 hg2
        go_wp2_with fail
        refine (planUses_any _ plan x w3 h3 Hv.out hx).mono ?_
        rintro e w4 ⟨uv, rfl, hu, hg4⟩
        rw [graphL_users Hv.out] at hu
        have T4 := T3.new hg4
        have g4 := gb_trans g3 hg4
        obtain ⟨Au, mu, cu, rfl⟩ := hu.ri.val
        go_wp2_with fail
        refine (tabTake_any tb _ _ _ (usersOf plan x) w4 T4 hl10 hu.ri (fun u hu' => (mem_usersOf.1 hu').1) (usersOf_nodup plan x) (laid_small Hv.out Hfit.out)).mono ?_
        rintro e w5 (⟨⟨t, u, hut, hz⟩, rfl, hg5⟩ | ⟨hnz, rv, rfl, ho5, T5, hg5⟩)
        · have g5 := gb_new g4 hg5 (fun g e => by cases e; exact .inl htb')
          have hfin := Lib.hid (fin w5 g5 (cd_zero Hv.out Hfit.out.1 hut hz))
          clear hut hz fin T T3 T4 hu
          go_wp2_with fail
          refine bodyPost_ret (v := .tuple #[.slice none 0 0, .slice none 0 0, .bool false]) (by simp [results, Tryz.results22, go_sem]) rfl ?_
          exact hfin.out
        · have g5 := gb_new g4 hg5 (fun g e => by cases e; exact .inl htb')
          have Hr := Lib.hid (cd_ok Hv.out hx Hfit.out hnz)
          obtain ⟨Ar, nr, cr, rfl⟩ := ho5.ri.val
          clear hnz fin T T3 T4 hu
          go_wp2_with fail
          refine (tabList_any tb _ _ w5 T5 hl10).mono ?_
          rintro e w6 ⟨lv, rfl, ho6, hg6⟩
          obtain ⟨Al, nl, cl, rfl⟩ := ho6.ri.val
          have g6 := gb_trans g5 hg6
          have hfin : Hid (CDOut w (countsDone plan cs (x : Int)) (.returned (.tuple #[.slice Al nl cl, .slice Ar nr cr, .bool true])) w6) := by
            show CDOut _ _ _ _
            rw [Hr.out]
            exact ⟨_, _, rfl, ho6.lower g5.size, (ho5.new hg6).lower g4.size, g6⟩
          clear ho5 ho6
          go_wp2_with fail
          refine bodyPost_ret (v := .tuple #[.slice Al nl cl, .slice Ar nr cr, .bool true]) (by simp [results, Tryz.results22, go_sem]) rfl ?_
          exact hfin.out
      · have hfin := Lib.hid (fin w3 (gb_trans g2 hg3) (cd_unfit Hv.out hfit))
        clear hfit fin T
        go_wp2_with fail
        refine bodyPost_ret (v := .tuple #[.slice none 0 0, .slice none 0 0, .bool false]) (by simp [results, Tryz.results22, go_sem]) rfl ?_
        exact hfin.out
    · have hin' : (decide (0 ≤ x) && decide (x < (n : Int))) = false := by
        simp only [Bool.and_eq_false_iff, decide_eq_false_iff_not]
        omega
      have Hin := Lib.hid hin'
      have Hr : Hid (countsDone plan cs x = none) := cd_out (by rw [← Hn.out]; exact hin')
      clear hv hin hin'
      go_enter Tryz.func22, Tryz.ntmps22
      go_wp2_with fail
      refine (implPlanValid_b _ plan _ h Hv.out).mono ?_
      rintro e w1 ⟨rfl, hg1⟩
      go_wp2_with fail
      refine (isNode_b _ _ _ _ _ Hin.out).mono ?_
      rintro e w1' ⟨rfl, rfl⟩
      have hfin := Lib.hid (fin w1 hg1 Hr.out)
      clear fin
      go_wp2_with fail
      refine bodyPost_ret (v := .tuple #[.slice none 0 0, .slice none 0 0, .bool false]) (by simp [results, Tryz.results22, go_sem]) rfl ?_
      exact hfin.out
  · have hv' : planValid plan = false := by simpa using hv
    have Hv := Lib.hid hv'
    clear hv hv'
    go_enter Tryz.func22, Tryz.ntmps22
    go_wp2_with fail
    refine (implPlanValid_b _ plan _ h Hv.out).mono ?_
    rintro e w1 ⟨rfl, hg1⟩
    have hfin := Lib.hid (fin w1 hg1 (cd_bad Hv.out))
    clear fin
    go_wp2_with fail
    refine bodyPost_ret (v := .tuple #[.slice none 0 0, .slice none 0 0, .bool false]) (by simp [results, Tryz.results22, go_sem]) rfl ?_
    exact hfin.out
end Go.Proofs.YtihobnheficpjaaGreatDoor
