/- Walks: spec.DrawPlanText, laws.FnPlanText, laws.FnPlanTextPart. -/
import Derived.Test.YthampfkicnakgaaGreatDoorV2SText
import Derived.Test.YthampfkicnakgaaGreatDoorV4IText
import Derived.Test.YthampfkicnakgaaGreatDoorE1Draw
import Derived.Test.YthampfkicnakgaaGreatDoorL23NodeText
import Derived.Test.YthampfkicnakgaaGreatDoorG2Uses
namespace Go.Proofs.YthampfkicnakgaaGreatDoor
open Go.RowKit
theorem drawPlanText_any (w : World) (v : Value) (n : Nat) (h : Bytes w w.heap.size v n) (hn : n ≤ 1048576) : Calls Tryz.prog 13 #[v] w (DrawPlan w) := by
  obtain ⟨A, c, rfl, h2⟩ := id h
  go_enter Tryz.func13, Tryz.ntmps13
  go_wp2_with fail
  refine (l6Open_any _ _ n (by exact h) hn).mono ?_
  rintro e w1 ⟨rb, rfl, hrd, hg⟩
  go_wp2_with fail
  refine (l91Plan_any w.heap.size rb 0 _ (by exact hrd) (by omega) (by omega)).mono ?_
  rintro e w2 ⟨v2, plan, rfl, hv, hs, p', hp0, hp1, hrd', hg'⟩
  obtain ⟨A2, n2, c2, rfl⟩ := hv.val
  go_wp2_with fail
  go_ret
  exact ⟨_, plan, rfl, hv, hs, gb_new hg hg' (fun g e => by cases e; exact .inl hrd.le)⟩
theorem bstr_ne {l : List UInt8} (h : l ≠ []) : (bstr l).toList.isEmpty = false := by
  rw [ByteArray.toList_eq]
  cases l with
  | nil => exact absurd rfl h
  | cons x r => rfl
/-- The first m of a slice of nodes. -/
theorem RN.take {w : World} {A : Option Addr} {n c m : Nat} {plan : List Node} (h : RN w (.slice A n c) plan) (hm : m ≤ n) : RN w (.slice A m c) (plan.take m) := by
  have hn := h.len
  obtain ⟨xs, ⟨h0, A', c', e, h2, h3, h4, h5⟩, h6⟩ := h
  injection e with e1 e2 e3
  subst e1 e3
  refine ⟨xs.take (m * 3), ⟨?_, A, c, ?_, by rw [List.length_take]; omega, h3, h4, ?_⟩, fun i nd hi => ?_⟩
  · rw [List.length_take, List.length_take, h0]; omega
  · rw [List.length_take, Nat.min_eq_left (by omega)]
  · rcases h5 with h5 | ⟨g, o, cur, hA, hb, hc⟩
    · exact .inl (by rw [List.length_take]; omega)
    · refine .inr ⟨g, o, cur, hA, hb, fun j u hu => hc j u ?_⟩
      rw [List.getElem?_take] at hu
      split at hu
      · exact hu
      · cases hu
  · rw [List.getElem?_take] at hi
    split at hi
    · obtain ⟨f, r, k1, k2, k3, k4, k5⟩ := h6 i nd hi
      exact ⟨f, r, by rw [List.getElem?_take, if_pos (by omega)]; exact k1, by rw [List.getElem?_take, if_pos (by omega)]; exact k2, by rw [List.getElem?_take, if_pos (by omega)]; exact k3, k4, k5⟩
    · cases hi
theorem bstr_head (a b : List UInt8) : (bstr (a ++ b)).extract 0 a.length = bstr a := by
  apply ByteArray.ext
  simp [bstr]
set_option maxHeartbeats 800000 in
set_option maxRecDepth 20000 in
theorem fnPlanTextPart_any (w : World) (v v' : Value) (n n' : Nat) (h : Bytes w w.heap.size v n) (h' : Bytes w w.heap.size v' n') (hn : n ≤ 9223372036854775807) (hn' : n' ≤ 9223372036854775807) (hp : PTab w) (hkw : KWords w) :
    Calls Tryz.prog 4 #[v, v'] w fun e w' => e = .returned (.bool true) ∧ w.grownBy w' none := by
  obtain ⟨A, c, rfl, h2⟩ := id h
  obtain ⟨A', c', rfl, h2'⟩ := id h'
  have H := Lib.hid h
  have HK := Lib.hid hkw
  clear h h2 h' h2' hkw
  by_cases hbig : 1048576 < n
  · go_enter Tryz.func4, Tryz.ntmps4
    go_wp2_with fail
    go_ret
    exact ⟨rfl, gb_refl _ _⟩
  by_cases hbig' : 1048576 < n'
  · go_enter Tryz.func4, Tryz.ntmps4
    go_wp2_with fail
    go_ret
    exact ⟨rfl, gb_refl _ _⟩
  go_enter Tryz.func4, Tryz.ntmps4
  go_wp2_with fail
  refine (drawPlanText_any _ _ n H.out (by omega)).mono ?_
  rintro e w1 ⟨v1, plan, rfl, hv1, hs1, hg1⟩
  obtain ⟨A1, n1, c1, rfl, hc1, hn1, hm1⟩ := hv1.form'
  have hn11 : n1 ≤ 11 := by rw [hn1]; exact hs1.1
  have Hn1 := Lib.hid hn1
  clear hn1 hs1
  have hK1 := HK.out.new hg1
  go_wp2_with fail
  refine (implPlanText_any _ plan w1 hv1 (hp.new hg1) hK1).mono ?_
  rintro e w2 ⟨rfl, hg2⟩
  have hv2 := hv1.new hg2
  have hg12 := gb_trans hg1 hg2
  clear hg1 hg2 hv1 hK1
  go_wp2_with fail
  refine (specPlanText_any _ plan _ hv2 (by have := Hn1.out; omega)).mono ?_
  rintro e w3 ⟨rfl, hg3⟩
  have hv3 := hv2.new hg3
  have hg := gb_trans hg12 hg3
  clear hg12 hg3 hv2
  by_cases hT : planText plan = []
  · have hbe : bstr (planText plan) = (⟨#[]⟩ : ByteArray) := by rw [hT]; rfl
    rw [hbe]
    clear hT hbe
    go_wp2_with fail
    go_ret
    exact ⟨rfl, hg⟩
  · have hv : planValid plan = true := by
      rcases Bool.eq_false_or_eq_true (planValid plan) with e | e
      · exact e
      · exact absurd (by unfold planText; rw [e]; rfl) hT
    have hne : (bstr (planText plan)).toList.isEmpty = false := bstr_ne hT
    obtain ⟨m, hm⟩ : ∃ m, m = n' % (n1 + 1) := ⟨_, rfl⟩
    have hlt := Nat.mod_lt n' (Nat.succ_pos n1)
    have hmod : (n' : Int).tmod ((n1 : Int) + 1) = (m : Int) := by
      rw [hm]; rfl
    rw [show n1.succ = n1 + 1 from rfl, ← hm] at hlt
    have hmn : m ≤ n1 := by omega
    clear hm hlt
    obtain ⟨r, hr⟩ := planText_take hv m
    have Hr := Lib.hid hr
    clear hr
    have hl6 := planText_len plan
    have hvm := hv3.take hmn
    have hK3 := HK.out.new hg
    clear hT hv
    generalize planText plan = T at hne Hr hl6 ⊢
    obtain ⟨S, hS⟩ : ∃ S, S = planText (plan.take m) := ⟨_, rfl⟩
    have HS := Lib.hid hS
    have hle : (bstr S).size ≤ (bstr T).size := by rw [bstr_size, bstr_size, Hr.out, ← hS, List.length_append]; omega
    have hle6 : (bstr T).size ≤ 6000 := by rw [bstr_size]; exact hl6
    have HX : Hid ((bstr T).extract 0 (bstr S).size = bstr S) := by show _ = _; rw [Hr.out, ← hS, bstr_size]; exact bstr_head _ _
    clear hS
    go_wp2_with fail
    refine (implPlanText_any _ (plan.take m) w3 hvm (hp.new hg) hK3).mono ?_
    rw [show planText (plan.take m) = S from HS.out.symm]
    rintro e w4 ⟨rfl, hg4⟩
    go_wp2_with fail
    go_ret
    refine ⟨?_, gb_trans hg hg4⟩
    show Ending.returned (Value.bool (_ == _)) = _
    rw [HX.out, beq_self_eq_true]
end Go.Proofs.YthampfkicnakgaaGreatDoor
