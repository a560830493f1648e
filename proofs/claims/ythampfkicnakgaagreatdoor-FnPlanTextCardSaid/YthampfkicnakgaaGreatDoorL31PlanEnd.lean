/- Walks: impl.ValueOf, laws.FnPlanText. -/
import Derived.Test.YthampfkicnakgaaGreatDoorL30PlanText
namespace Go.Proofs.YthampfkicnakgaaGreatDoor
open Go.RowKit
theorem bstr_tail' (a b : List UInt8) : (bstr (a ++ b)).extract a.length (a.length + b.length) = bstr b := by
  apply ByteArray.ext
  simp [bstr]
/-- What ValueOf answers. -/
def ValueOfPost (w : World) (plan : List Node) (k : Nat) (e : Ending) (w' : World) : Prop := ∃ v, e = .returned (.tuple #[v, .bool true]) ∧ RI w' v (valAt plan k) ∧ w.grownBy w' none
set_option maxHeartbeats 800000 in
set_option maxRecDepth 20000 in
theorem valueOf_any (v : Value) (plan : List Node) (k : Nat) (w : World) (h : RN w v plan) (hv : planValid plan = true) (hk : k < plan.length) : Calls Tryz.prog 16 #[v, .int .i64 k] w (ValueOfPost w plan k) := by
  obtain ⟨A, n, c, rfl, hnc, hn, hn9⟩ := h.form'
  have Hn := Lib.hid hn
  have Hv := Lib.hid hv
  have hkn : k < n := by omega
  clear hn hn9 hv hk
  go_enter Tryz.func16, Tryz.ntmps16
  go_wp2_with fail
  refine (valuesOf_any _ plan w h).mono ?_
  rw [show ValuesPost w plan = fun e w' => ∃ v, e = .returned (.tuple #[v, .bool (planValid plan)]) ∧ RL w' v (if planValid plan = true then values plan else []) ∧ w.grownBy w' none from rfl, Hv.out, if_pos rfl]
  rintro e w1 ⟨rv, rfl, hrv, hg1⟩
  obtain ⟨A2, n2, c2, rfl, hnc2, hn2, -⟩ := hrv.form'
  have hn2' : n2 = n := by rw [hn2, values_len]; exact Hn.out.symm
  subst hn2'
  clear hn2
  obtain ⟨g3, o3, l, B3, m3, e3, rfl, hl, hcl, hrl, -, -, -⟩ := hrv.at_ hkn
  have hval : l = valAt plan k := by
    rw [valAt_get (by rw [← Hn.out]; exact hkn)] at hl
    injection hl with hl
    exact hl.symm
  subst hval
  clear hl
  go_wp2_with fail
  refine (isNode_b A n2 c (k : Int) _ (b := true) (by simp; omega)).mono ?_
  rintro e w2 ⟨rfl, rfl⟩
  go_wp2_with fail
  go_ret2
  exact ⟨_, rfl, hrl, hg1⟩
set_option maxHeartbeats 1600000 in
set_option maxRecDepth 20000 in
theorem fnPlanText_any (w : World) (v : Value) (n : Nat) (h : Bytes w w.heap.size v n) (hn : n ≤ 9223372036854775807) (hp : PTab w) (hkw : KWords w) :
    Calls Tryz.prog 5 #[v] w fun e w' => e = .returned (.bool true) ∧ w.grownBy w' none := by
  obtain ⟨A, c, rfl, h2⟩ := id h
  have H := Lib.hid h
  have HK := Lib.hid hkw
  clear h h2 hkw
  by_cases hbig : 1048576 < n
  · go_enter Tryz.func5, Tryz.ntmps5
    go_wp2_with fail
    go_ret
    exact ⟨rfl, gb_refl _ _⟩
  go_enter Tryz.func5, Tryz.ntmps5
  go_wp2_with fail
  refine (drawPlanText_any _ _ n H.out (by omega)).mono ?_
  rintro e w1 ⟨v1, plan, rfl, hv1, hs1, hg1⟩
  obtain ⟨A1, n1, c1, rfl, hc1, hn1, hm1⟩ := hv1.form'
  have hn11 : n1 ≤ 11 := by rw [hn1]; exact hs1.1
  have Hn1 := Lib.hid hn1
  clear hn1 hs1
  have hK1 := HK.out.new hg1
  go_wp2_with fail
  refine (implPlanText_any _ plan w1 hv1 (hp.new hg1) hK1).mono ?_
  rintro e w2 ⟨rfl, hg2⟩
  have hv2 := hv1.new hg2
  have hg12 := gb_trans hg1 hg2
  clear hg1 hg2 hv1 hK1
  go_wp2_with fail
  refine (specPlanText_any _ plan _ hv2 (by have := Hn1.out; omega)).mono ?_
  rintro e w3 ⟨rfl, hg3⟩
  have hv3 := hv2.new hg3
  have hg := gb_trans hg12 hg3
  clear hg12 hg3 hv2
  by_cases hT : planText plan = []
  · have hbe : bstr (planText plan) = (⟨#[]⟩ : ByteArray) := by rw [hT]; rfl
    rw [hbe]
    clear hT hbe
    go_wp2_with fail
    go_ret
    exact ⟨rfl, hg⟩
  · have hv : planValid plan = true := by
      rcases Bool.eq_false_or_eq_true (planValid plan) with e | e
      · exact e
      · exact absurd (by unfold planText; rw [e]; rfl) hT
    have hne : (bstr (planText plan)).toList.isEmpty = false := bstr_ne hT
    have hn0 : n1 ≠ 0 := by
      intro e
      have : plan = [] := List.eq_nil_of_length_eq_zero (by rw [← Hn1.out]; exact e)
      subst this
      exact hT rfl
    obtain ⟨k, rfl⟩ : ∃ k, n1 = k + 1 := ⟨n1 - 1, by omega⟩
    obtain ⟨r, hr⟩ := planText_end hv Hn1.out.symm
    have hnews : Hid (news (planText plan) = k + 1) := by
      show _ = _
      unfold planText
      rw [if_pos hv, news_lines hv _ (Nat.le_refl _), ← Hn1.out]
    have hl6 := planText_len plan
    have hvl := rowText_len (valAt_valid hv (i := k) (by rw [← Hn1.out]; omega)).1
    have HR2 : Hid (rowTextOf (valAt plan k) = rowText (valAt plan k)) := by show _ = _; unfold rowTextOf; rw [if_pos (valAt_valid hv (i := k) (by rw [← Hn1.out]; omega)).1]
    have Hr := Lib.hid hr
    have Hv := Lib.hid hv
    have hsz3 := hg.size
    clear hT hv hr
    generalize planText plan = T at hne Hr hl6 hnews ⊢
    go_wp2_with fail
    go_loopg [6, 7] (T.length + 1) (fun mm c i wr => ∃ q : Nat, q ≤ T.length ∧ mm = T.length + 1 - q ∧ i = .int .i64 q ∧ c = .int .i64 (news (T.take q)) ∧ wr = w3)
    case atStart => exact ⟨0, Nat.zero_le _, rfl, rfl, rfl, rfl⟩
    case round =>
      obtain ⟨q, hq, rfl, rfl, rfl, rfl⟩ := hrel
      by_cases hlt : q < T.length
      · have hsz : (bstr T).size = T.length := bstr_size T
        have hget : (bstr T)[q]'(by rw [bstr_size]; exact hlt) = T[q] := rfl
        have htk : T.take (q + 1) = T.take q ++ [T[q]] := List.take_succ_eq_append_getElem hlt
        by_cases hbk : T[q] = 10
        · have hqq : ((((bstr T)[q]'(by rw [bstr_size]; exact hlt)).toNat : Int) == 10) = true := by rw [hget, hbk]; rfl
          have hS : Hid (news (T.take (q + 1)) = news (T.take q) + 1) := by
            show _ = _
            rw [htk, hbk, news_append]
            rfl
          have hbb : news (T.take q) ≤ 6000 := by
            have := List.countP_le_length (p := fun b : UInt8 => b == 10) (l := T.take q)
            rw [List.length_take] at this
            unfold news
            omega
          clear hbk hget htk
          go_wp2_with fail
          go_roundg (T.length + 1 - (q + 1))
          case measure => omega
          case rel => exact ⟨q + 1, by omega, rfl, by go_num, by rw [hS.out]; go_num, rfl⟩
        · have hqq : ((((bstr T)[q]'(by rw [bstr_size]; exact hlt)).toNat : Int) == 10) = false := by
            rw [hget]
            have : T[q].toNat ≠ 10 := fun e => hbk (UInt8.toNat_inj.1 e)
            simp
            omega
          have hS : Hid (news (T.take (q + 1)) = news (T.take q)) := by
            show _ = _
            rw [htk, news_append, news_none (l := [T[q]]) (by simpa using hbk)]
            rfl
          clear hbk hget htk
          go_wp2_with fail
          go_roundg (T.length + 1 - (q + 1))
          case measure => omega
          case rel => exact ⟨q + 1, by omega, rfl, by go_num, by rw [hS.out], rfl⟩
      · have hkT : q = T.length := by omega
        have hsz : (bstr T).size = T.length := bstr_size T
        have hlk : ¬ ((q : Int) < (T.length : Int)) := by omega
        have hb2 : news (T.take q) = k + 1 := by rw [hkT, List.take_length, hnews.out]
        rw [hb2]
        generalize hR : rowText (valAt plan k) = R at hvl HR2 Hr
        obtain ⟨X1, hX1⟩ : ∃ X, X = [32] ++ R := ⟨_, rfl⟩
        obtain ⟨X2, hX2⟩ : ∃ X, X = X1 ++ [10] := ⟨_, rfl⟩
        have hap1 : (⟨#[32]⟩ : ByteArray) ++ bstr R = bstr X1 := by rw [hX1]; exact bstr_append [32] _
        have hap2 : bstr X1 ++ (⟨#[10]⟩ : ByteArray) = bstr X2 := by rw [hX2]; exact bstr_append _ [10]
        have hl1 : X1.length = 1 + R.length := by rw [hX1, List.length_append]; rfl
        have hs1 : ¬ (9223372036854775807 < 1 + (bstr R).size) := by rw [bstr_size]; omega
        have hs2 : ¬ (9223372036854775807 < (bstr X1).size + 1) := by rw [bstr_size]; omega
        have hTX : T = r ++ X2 := by rw [Hr.out, hX2, hX1]
        have hS : Hid ((bstr T).extract ((bstr T).size - (bstr X2).size) (bstr T).size = bstr X2) := by
          show _ = _
          rw [hTX, bstr_size, bstr_size, List.length_append, Nat.add_sub_cancel]
          exact bstr_tail' _ _
        have hle : (bstr X2).size ≤ (bstr T).size := by rw [bstr_size, bstr_size, hTX, List.length_append]; omega
        have hle6 : (bstr T).size ≤ 6000 := by rw [bstr_size]; exact hl6
        clear hTX hX1 hX2 hR hb2 hkT hl1
        go_wp2_with fail
        refine (valueOf_any _ plan k wr hv3 Hv.out (by rw [← Hn1.out]; omega)).mono ?_
        rintro e w4 ⟨rv, rfl, hrv, hg4⟩
        have g4 := gb_trans hg hg4
        obtain ⟨A4, n4, c4, rfl⟩ := hrv.val
        go_wp2_with fail
        refine (implRowText_any _ _ w4 hrv (hp.new g4)).mono ?_
        rintro e w5 ⟨rfl, hg5⟩
        rw [HR2.out]
        go_wp2_with fail
        go_ret
        refine ⟨?_, gb_trans g4 hg5⟩
        show Ending.returned (Value.bool (_ == _)) = _
        have h9 := hS.out
        rw [hsz] at h9
        rw [h9, beq_self_eq_true]
end Go.Proofs.YthampfkicnakgaaGreatDoor
