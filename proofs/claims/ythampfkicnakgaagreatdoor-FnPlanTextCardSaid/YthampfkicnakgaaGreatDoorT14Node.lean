/- Walks: a node as a text: spec.l41Kind, spec.NodeText, impl.NodeText. -/
import Derived.Test.YthampfkicnakgaaGreatDoorT13List
namespace Go.Proofs.YthampfkicnakgaaGreatDoor
open Go.RowKit

theorem kindWord_len (k : Int) : (kindWord k).length ≤ 5 := by
  unfold kindWord
  repeat' split
  all_goals decide
theorem kindWord_0 : bstr (kindWord 0) = ⟨#[102, 105, 120, 101, 100]⟩ := by decide
theorem kindWord_1 : bstr (kindWord 1) = ⟨#[97, 100, 100]⟩ := by decide
theorem kindWord_2 : bstr (kindWord 2) = ⟨#[116, 105, 109, 101, 115]⟩ := by decide
theorem kindWord_3 : bstr (kindWord 3) = ⟨#[115, 117, 109, 115]⟩ := by decide
theorem kindWord_4 : bstr (kindWord 4) = ⟨#[115, 111, 114, 116]⟩ := by decide
theorem kindWord_5 : bstr (kindWord 5) = ⟨#[116, 117, 114, 110]⟩ := by decide
/-- A node that fits has as many nodes before it as its kind needs: two at most. -/
theorem fits_parts {x : Node} {a : Int} (h : nodeFits x a = true) : (0 ≤ x.kind ∧ x.kind ≤ 5) ∧ (x.frm.length : Int) = kindNeeds x.kind ∧ x.frm.length ≤ 2 ∧ (∀ y ∈ x.frm, 0 ≤ y ∧ y < a) ∧ (x.kind = 0 → rowValid x.row = true) ∧ (x.kind ≠ 0 → x.row = []) := by
  unfold nodeFits at h
  simp only [Bool.and_eq_true, decide_eq_true_eq, List.all_eq_true] at h
  obtain ⟨⟨⟨h1, h2⟩, h3⟩, h4⟩ := h
  have hk := kindNeeds_le x.kind
  refine ⟨?_, h2, by omega, h3, fun e => ?_, fun e => ?_⟩
  · unfold kindValid at h1
    simpa using h1
  · rw [if_pos e] at h4
    exact h4
  · rw [if_neg e] at h4
    exact List.eq_nil_of_length_eq_zero (by simpa using h4)
theorem itoa_small {x a : Int} (h0 : 0 ≤ x) (h1 : x < a) (ha : a ≤ 1000000000) : (Lib.itoa x).length ≤ 20 := by
  obtain ⟨m, rfl⟩ := Int.eq_ofNat_of_zero_le h0
  show (Lib.itoa (m : Int)).length ≤ 20
  rw [itoa_nat]
  exact dec_len (by omega)
theorem fromText_len {l : List Int} (h : ∀ y ∈ l, 0 ≤ y ∧ y < 1000000) : (fromText l).length ≤ 21 * l.length := by
  unfold fromText
  induction l with
  | nil => simp
  | cons x r ih =>
    have := ih (fun y hy => h y (by simp [hy]))
    have hx := h x (by simp)
    have := itoa_small hx.1 hx.2 (by omega)
    simp only [List.map_cons, List.flatten_cons, List.length_append, List.length_cons] at *
    omega
theorem fromText_take {l : List Int} {k : Nat} {x : Int} (h : l[k]? = some x) : fromText (l.take (k + 1)) = fromText (l.take k) ++ (32 :: Lib.itoa x) := by
  obtain ⟨h0, rfl⟩ := List.getElem?_eq_some_iff.1 h
  rw [List.take_succ_eq_append_getElem h0, fromText_snoc]
/-- What stands there once k nodes have been named. -/
def nodePre (x : Node) (k : Nat) : List UInt8 := kindWord x.kind ++ fromText (x.frm.take k)
theorem nodePre_zero (x : Node) : nodePre x 0 = kindWord x.kind := by simp [nodePre, fromText]
theorem nodePre_succ {x : Node} {k : Nat} {y : Int} (h : x.frm[k]? = some y) : nodePre x (k + 1) = nodePre x k ++ [32] ++ Lib.itoa y := by
  unfold nodePre
  rw [fromText_take h]
  simp
theorem nodePre_len {x : Node} {k : Nat} (h : ∀ y ∈ x.frm.take k, 0 ≤ y ∧ y < 10) (hk : k ≤ 2) : (nodePre x k).length ≤ 47 := by
  have h1 := fromText_len (l := x.frm.take k) (fun y hy => by have := h y hy; omega)
  have h2 := kindWord_len x.kind
  rw [List.length_take] at h1
  unfold nodePre
  rw [List.length_append]
  omega
theorem l41Kind_any (k : Int) (w : World) : Calls Tryz.prog 70 #[.int .i64 k] w fun e w' => e = .returned (.string (bstr (kindWord k))) ∧ w = w' := by
  by_cases h0 : k = 0
  · subst h0
    go_enter Tryz.func70, Tryz.ntmps70
    go_wp2_with fail
    go_ret
    exact ⟨by rw [kindWord_0]; rfl, rfl⟩
  by_cases h1 : k = 1
  · subst h1
    go_enter Tryz.func70, Tryz.ntmps70
    go_wp2_with fail
    go_ret
    exact ⟨by rw [kindWord_1]; rfl, rfl⟩
  by_cases h2 : k = 2
  · subst h2
    go_enter Tryz.func70, Tryz.ntmps70
    go_wp2_with fail
    go_ret
    exact ⟨by rw [kindWord_2]; rfl, rfl⟩
  by_cases h3 : k = 3
  · subst h3
    go_enter Tryz.func70, Tryz.ntmps70
    go_wp2_with fail
    go_ret
    exact ⟨by rw [kindWord_3]; rfl, rfl⟩
  by_cases h4 : k = 4
  · subst h4
    go_enter Tryz.func70, Tryz.ntmps70
    go_wp2_with fail
    go_ret
    exact ⟨by rw [kindWord_4]; rfl, rfl⟩
  have b0 : (k == 0) = false := by simpa using h0
  have b1 : (k == 1) = false := by simpa using h1
  have b2 : (k == 2) = false := by simpa using h2
  have b3 : (k == 3) = false := by simpa using h3
  have b4 : (k == 4) = false := by simpa using h4
  have H : Hid (bstr (kindWord k) = ⟨#[116, 117, 114, 110]⟩) := by
    show _ = _
    rw [← kindWord_5]
    unfold kindWord
    rw [if_neg h0, if_neg h1, if_neg h2, if_neg h3, if_neg h4]
    rfl
  clear h0 h1 h2 h3 h4
  go_enter Tryz.func70, Tryz.ntmps70
  go_wp2_with fail
  go_ret
  exact ⟨by rw [H.out]; rfl, rfl⟩
theorem spaced (l : List UInt8) : bstr l ++ (⟨#[32]⟩ : ByteArray) = bstr (l ++ [32]) := bstr_append l [32]
theorem spacing (l : List UInt8) : (⟨#[32]⟩ : ByteArray) ++ bstr l = bstr (32 :: l) := bstr_append [32] l
theorem nodeText_not {x : Node} (h : nodeFits x 10 = false) : bstr (nodeText x) = ⟨#[]⟩ := by
  unfold nodeText
  rw [h]
  rfl
set_option maxHeartbeats 800000 in
set_option maxRecDepth 20000 in
theorem specNodeText_any (v : Value) (nd : Node) (w : World) (h : NV w v nd) : Calls Tryz.prog 43 #[v] w (StrOut w (nodeText nd)) := by
  obtain ⟨f, r, rfl, hf, hr⟩ := h
  have hfl := hf.le
  have hrl := hr.le
  obtain ⟨Af, nf, cf, rfl, _, hnf⟩ := hf.form'
  obtain ⟨Ar, nr, cr, rfl, _, hnr⟩ := hr.form'
  rw [← hnf] at hfl
  rw [← hnr] at hrl
  have Hnf := Lib.hid hnf
  have Hnr := Lib.hid hnr
  clear hnf hnr
  have hrW := hr.alloc (.cells #[.int .i64 nd.kind, .slice Af nf cf, .slice Ar nr cr] 66)
  have hfW := hf.alloc (.cells #[.int .i64 nd.kind, .slice Af nf cf, .slice Ar nr cr] 66)
  have hG : Hid (w.grownBy (w.alloc (.cells #[.int .i64 nd.kind, .slice Af nf cf, .slice Ar nr cr] 66)) none) := World.grownBy_alloc _ _ _
  clear hf hr
  by_cases hk : kindNeeds nd.kind = nf
  · have hb : (kindNeeds nd.kind != (nf : Int)) = false := by simpa using hk
    have Hk := Lib.hid hk
    have hnf2 : nf ≤ 2 := by have := kindNeeds_le nd.kind; omega
    clear hk
    by_cases hv : rowValid nd.row = true
    · have Hv := Lib.hid hv
      clear hv
      by_cases hk0 : nd.kind = 0
      · have hb1 : (nd.kind != 0) = false := by simpa using hk0
        have hb2 : (nd.kind == 0) = true := by simpa using hk0
        have hT : Hid (nodeText nd = kindWord nd.kind ++ [32] ++ rowText nd.row) := by
          have hnf0 : nf = 0 := by have := Hk.out; rw [hk0] at this; simp [kindNeeds] at this; omega
          have hfit : nodeFits nd 10 = true := by
            unfold nodeFits
            have e0 : nd.frm = [] := List.eq_nil_of_length_eq_zero (by rw [← Hnf.out, hnf0])
            rw [e0, hk0, Hv.out]
            rfl
          show _ = _
          unfold nodeText
          rw [if_pos hfit, if_pos hk0, hk0]
          simp
        have hl5 := kindWord_len nd.kind
        have hrt : (rowText nd.row).length ≤ 200 := by
          by_cases hl0 : nd.row = []
          · rw [hl0]; decide
          · rw [← rowPre_all hl0]
            exact rowPre_len Hv.out _
        have hs1 : ¬ (9223372036854775807 < (bstr (kindWord nd.kind)).size + (⟨#[32]⟩ : ByteArray).size) := no_long (b := [32]) (by simp; omega)
        have hs2 : ¬ (9223372036854775807 < (bstr (kindWord nd.kind ++ [32])).size + (bstr (rowText nd.row)).size) := no_long (by simp; omega)
        have hap := spaced (kindWord nd.kind)
        clear hk0 hrt hl5 Hk
        go_enter Tryz.func43, Tryz.ntmps43
        go_wp2_with fail
        go_quiet ((first
          | (go_at_call 69; exact quiet_l (specKindNeeds_any _ _))
          | (go_at_call 29; exact quiet_l (specRowValid_b _ _ _ (by exact hrW) Hv.out))))
        go_wp2_with fail
        refine (l41Kind_any _ _).mono ?_
        rintro e w1 ⟨rfl, rfl⟩
        go_wp2_with fail
        refine (l41Row_any _ nd.row _ (by exact hrW) Hv.out).mono ?_
        rintro e w2 ⟨rfl, hg2⟩
        go_wp2_with fail
        go_ret
        exact ⟨by rw [hT.out, bstr_append]; rfl, gb_trans (gb_drewN hG.out _) hg2⟩
      · have hb1 : (nd.kind != 0) = true := by simpa using hk0
        have hb2 : (nd.kind == 0) = false := by simpa using hk0
        have Hk0 := Lib.hid hk0
        clear hk0
        by_cases hr0 : nr = 0
        · have Hr0 := Lib.hid hr0
          have hlen0 : ¬ (0 : Int) < (nr : Int) := by omega
          have hl5 := kindWord_len nd.kind
          clear hr0
          go_enter Tryz.func43, Tryz.ntmps43
          go_wp2_with fail
          go_quiet ((first
            | (go_at_call 69; exact quiet_l (specKindNeeds_any _ _))
            | (go_at_call 29; exact quiet_l (specRowValid_b _ _ _ (by exact hrW) Hv.out))))
          go_wp2_with fail
          refine (l41Kind_any _ _).mono ?_
          rintro e w1 ⟨rfl, rfl⟩
          have hB := Blk.new w 66 #[.int .i64 nd.kind, .slice Af nf cf, .slice Ar nr cr]
          generalize w.alloc (.cells #[.int .i64 nd.kind, .slice Af nf cf, .slice Ar nr cr] 66) = wa at hB hG hrW hfW ⊢
          have c0 : wa.cell? ⟨w.heap.size, 0, none⟩ = some (.int .i64 nd.kind) := hB.cell 0
          have c1 : wa.cell? ⟨w.heap.size, 1, none⟩ = some (.slice Af nf cf) := hB.cell 1
          go_wp2_with fail
          go_loopg [3, 4] (nf + 1) (fun mm s i wr => ∃ k : Nat, k ≤ nf ∧ mm = nf + 1 - k ∧ i = .int .i64 k ∧ s = .string (bstr (nodePre nd k)) ∧ Hid (∀ y ∈ nd.frm.take k, 0 ≤ y ∧ y < 10) ∧ wa.grownBy wr none)
          case atStart => exact ⟨0, Nat.zero_le _, rfl, rfl, by rw [nodePre_zero], (fun y hy => by simp at hy), gb_drewN (gb_refl _ _) _⟩
          case round =>
            obtain ⟨k, hk, rfl, rfl, rfl, Hall, hg⟩ := hrel
            have k1 : wr.cell? ⟨w.heap.size, 1, none⟩ = some (.slice Af nf cf) := hg.cell c1 (by simp)
            clear c0 c1
            by_cases hlt : k < nf
            · obtain ⟨g, o, x, rfl, hx, hcell⟩ := (hfW.new hg).at_ hlt
              have Hx := Lib.hid hx
              by_cases hin : (decide (0 ≤ x) && decide (x ≤ 9)) = true
              · have hin2 : 0 ≤ x ∧ x < 10 := by simp at hin; omega
                obtain ⟨m, hm⟩ := Int.eq_ofNat_of_zero_le hin2.1
                have Hm := Lib.hid hm
                have hm9 : m ≤ 9 := by omega
                have hall' : Hid (∀ y ∈ nd.frm.take (k + 1), 0 ≤ y ∧ y < 10) := by
                  intro y hy
                  obtain ⟨hk0, rfl⟩ := List.getElem?_eq_some_iff.1 hx
                  rw [List.take_succ_eq_append_getElem hk0] at hy
                  rcases List.mem_append.1 hy with hy | hy
                  · exact Hall.out y hy
                  · simp at hy
                    subst hy
                    exact hin2
                have hfl2 := nodePre_len Hall.out (by omega)
                have hdl := dec_len (n := m) (by omega)
                have hT : Hid (nodePre nd (k + 1) = nodePre nd k ++ [32] ++ Lib.decDigits m) := by
                  show _ = _
                  rw [nodePre_succ hx, hm, ← itoa_nat]
                have hs1 : ¬ (9223372036854775807 < (bstr (nodePre nd k)).size + (⟨#[32]⟩ : ByteArray).size) := no_long (b := [32]) (by simp; omega)
                have hs2 : ¬ (9223372036854775807 < (bstr (nodePre nd k ++ [32])).size + (bstr (Lib.decDigits m)).size) := no_long (by simp; omega)
                have hap := spaced (nodePre nd k)
                have Hin := Lib.hid hin
                clear hx hin hin2 hm Hall hfl2 hdl
                go_wp2_with fail
                refine (l6In_b _ _ _ _ Hin.out).mono ?_
                rintro e w3 ⟨rfl, rfl⟩
                go_wp2_with fail
                refine (l6Dec_any m _ x Hm.out (by omega)).mono ?_
                rintro e w4 ⟨rfl, hg4⟩
                go_wp2_with fail
                go_roundg (nf + 1 - (k + 1))
                case measure => omega
                case rel => exact ⟨k + 1, by omega, rfl, by go_num, by rw [hT.out, bstr_append], hall', gb_trans hg hg4⟩
              · have hin' : (decide (0 ≤ x) && decide (x ≤ 9)) = false := by simpa using hin
                have hT : Hid (bstr (nodeText nd) = ⟨#[]⟩) := by
                  refine nodeText_not ?_
                  have : nd.frm.all (fun y => decide (0 ≤ y) && decide (y < 10)) = false := by
                    rw [List.all_eq_false]
                    refine ⟨x, List.mem_of_getElem? hx, ?_⟩
                    simp at hin ⊢
                    omega
                  unfold nodeFits
                  rw [this]
                  simp
                have Hin := Lib.hid hin'
                clear hx hin hin' Hall
                go_wp2_with fail
                refine (l6In_b _ _ _ _ Hin.out).mono ?_
                rintro e w3 ⟨rfl, rfl⟩
                go_wp2_with fail
                go_ret
                exact ⟨by rw [hT.out] <;> rfl, gb_trans hG.out hg⟩
            · obtain rfl : k = nf := by omega
              have hT : Hid (nodeText nd = nodePre nd k) := by
                have ha := Hall.out
                have e0 : nd.frm.take k = nd.frm := by rw [Hnf.out, List.take_length]
                have hfit : nodeFits nd 10 = true := by
                  unfold nodeFits
                  have hkv : kindValid nd.kind = true := by
                    have := Hk.out
                    unfold kindValid
                    by_cases hbad : nd.kind < 0 ∨ 5 < nd.kind
                    · rw [kindNeeds, if_pos hbad] at this
                      omega
                    · simp
                      omega
                  have h1 : (nd.frm.all fun y => decide (0 ≤ y) && decide (y < 10)) = true := by
                    rw [List.all_eq_true]
                    intro y hy
                    have := ha y (by rw [e0]; exact hy)
                    simp
                    omega
                  rw [hkv, h1, if_neg Hk0.out, Hk.out, Hnf.out, ← Hnr.out, Hr0.out]
                  simp
                show _ = _
                unfold nodePre
                rw [e0]
                unfold nodeText
                rw [if_pos hfit, if_neg Hk0.out]
              clear Hall
              go_wp2_with fail
              go_ret
              exact ⟨by rw [hT.out]; rfl, gb_trans hG.out hg⟩
        · have hlen1 : (0 : Int) < (nr : Int) := by omega
          have hT : Hid (bstr (nodeText nd) = ⟨#[]⟩) := by
            refine nodeText_not ?_
            unfold nodeFits
            rw [if_neg Hk0.out, ← Hnr.out, decide_eq_false hr0]
            simp
          clear hr0
          go_enter Tryz.func43, Tryz.ntmps43
          go_wp2_with fail
          go_quiet ((first
            | (go_at_call 69; exact quiet_l (specKindNeeds_any _ _))
            | (go_at_call 29; exact quiet_l (specRowValid_b _ _ _ (by exact hrW) Hv.out))))
          go_wp2_with fail
          go_ret
          exact ⟨by rw [hT.out] <;> rfl, gb_drewN hG.out _⟩
    · have hv' : rowValid nd.row = false := by simpa using hv
      have hT : Hid (bstr (nodeText nd) = ⟨#[]⟩) := by
        refine nodeText_not ?_
        have hne : nd.row ≠ [] := by rintro e0; rw [e0] at hv'; revert hv'; decide
        unfold nodeFits
        rw [hv']
        by_cases e1 : nd.kind = 0
        · simp [e1]
        · rw [if_neg e1, decide_eq_false (fun e2 => hne (List.eq_nil_of_length_eq_zero e2))]
          simp
      have Hv := Lib.hid hv'
      clear hv hv'
      go_enter Tryz.func43, Tryz.ntmps43
      go_wp2_with fail
      go_quiet ((first
        | (go_at_call 69; exact quiet_l (specKindNeeds_any _ _))
        | (go_at_call 29; exact quiet_l (specRowValid_b _ _ _ (by exact hrW) Hv.out))))
      go_wp2_with fail
      go_ret
      exact ⟨by rw [hT.out] <;> rfl, gb_drewN hG.out _⟩
  · have hb : (kindNeeds nd.kind != (nf : Int)) = true := by simpa using hk
    have hT : Hid (bstr (nodeText nd) = ⟨#[]⟩) := by
      refine nodeText_not ?_
      unfold nodeFits
      rw [show decide ((nd.frm.length : Int) = kindNeeds nd.kind) = false by rw [← Hnf.out]; simpa using fun e => hk e.symm]
      simp
    clear hk
    go_enter Tryz.func43, Tryz.ntmps43
    go_wp2_with fail
    go_quiet ((first
      | (go_at_call 69; exact quiet_l (specKindNeeds_any _ _))
      | (go_at_call 29; exact quiet_l (specRowValid_any _ _ _ (by exact hrW)))))
    go_wp2_with fail
    go_ret
    exact ⟨by rw [hT.out] <;> rfl, gb_drewN hG.out _⟩
/-- The words of the kinds are there. -/
def KWords (w : World) : Prop := ∀ k : Nat, k < 6 → w.cell? ⟨1, k, none⟩ = some (.string (bstr (kindWord k)))
theorem KWords.new {w w' : World} (h : KWords w) (hg : w.grownBy w' none) : KWords w' := fun k hk => hg.cell (h k hk) (by simp)
set_option maxHeartbeats 800000 in
set_option maxRecDepth 20000 in
theorem implNodeText_any (v : Value) (nd : Node) (w : World) (h : NV w v nd) (hp : PTab w) (hkw : KWords w) : Calls Tryz.prog 37 #[v] w (StrOut w (nodeText nd)) := by
  obtain ⟨f, r, rfl, hf, hr⟩ := h
  have hfl := hf.le
  have hrl := hr.le
  obtain ⟨Af, nf, cf, rfl, _, hnf⟩ := hf.form'
  obtain ⟨Ar, nr, cr, rfl, _, hnr⟩ := hr.form'
  rw [← hnf] at hfl
  rw [← hnr] at hrl
  have Hnf := Lib.hid hnf
  have Hnr := Lib.hid hnr
  clear hnf hnr
  have hrW := hr.alloc (.cells #[.int .i64 nd.kind, .slice Af nf cf, .slice Ar nr cr] 66)
  have hfW := hf.alloc (.cells #[.int .i64 nd.kind, .slice Af nf cf, .slice Ar nr cr] 66)
  have hG0 : w.grownBy (w.alloc (.cells #[.int .i64 nd.kind, .slice Af nf cf, .slice Ar nr cr] 66)) none := World.grownBy_alloc _ _ _
  have hPW := hp.new hG0
  have hKW := Lib.hid (hkw.new hG0)
  have hB := Blk.new w 66 #[.int .i64 nd.kind, .slice Af nf cf, .slice Ar nr cr]
  have hG := Lib.hid hG0
  have hNV : NV (w.alloc (.cells #[.int .i64 nd.kind, .slice Af nf cf, .slice Ar nr cr] 66)) (.agg #[.int .i64 nd.kind, .slice Af nf cf, .slice Ar nr cr]) nd := ⟨_, _, rfl, hfW, hrW⟩
  clear hf hr hp hkw hG0
  by_cases hfit : nodeFits nd 10 = true
  · obtain ⟨⟨hk0, hk5⟩, hneeds, hf2, hall, hrow0, hrow1⟩ := fits_parts hfit
    obtain ⟨kind, frm, row⟩ := nd
    obtain ⟨m, hm⟩ := Int.eq_ofNat_of_zero_le hk0
    dsimp only at hm
    subst hm
    dsimp only at *
    have Hfit := Lib.hid hfit
    have hm5 : m ≤ 5 := by omega
    have hlf : frm.length = nf := Hnf.out.symm
    have Hall := Lib.hid hall
    have Hrow0 := Lib.hid hrow0
    rw [hlf] at hf2
    have hl5 := kindWord_len (m : Int)
    have Hneeds := Lib.hid hneeds
    have cw := hKW.out m (by omega)
    clear hfit hk0 hk5 hneeds hall hrow0 hrow1 hlf
    by_cases hm0 : m = 0
    · subst hm0
      have hT : Hid (nodeText ⟨((0 : Nat) : Int), frm, row⟩ = kindWord ((0 : Nat) : Int) ++ [32] ++ rowTextOf row) := by
        show _ = _
        unfold nodeText rowTextOf
        rw [if_pos Hfit.out, if_pos (Hrow0.out rfl)]
        simp
      generalize kindWord ((0 : Nat) : Int) = kw at hT cw hl5
      have hs1 : ¬ (9223372036854775807 < (bstr kw).size + (⟨#[32]⟩ : ByteArray).size) := no_long (b := [32]) (by simp; omega)
      have hrt : (rowTextOf row).length ≤ 200 := by
        unfold rowTextOf
        rw [if_pos (Hrow0.out rfl)]
        by_cases hl0 : row = []
        · rw [hl0]; decide
        · rw [← rowPre_all hl0]
          exact rowPre_len (Hrow0.out rfl) _
      have hs2 : ¬ (9223372036854775807 < (bstr (kw ++ [32])).size + (bstr (rowTextOf row)).size) := no_long (by simp; omega)
      have hap := spaced kw
      go_enter Tryz.func37, Tryz.ntmps37
      go_wp2_with fail
      refine (nodeFits_b _ _ _ _ (by exact hNV) Hfit.out).mono ?_
      rintro e w1 ⟨rfl, hg1⟩
      generalize w.alloc (.cells #[.int .i64 ((0 : Nat) : Int), .slice Af nf cf, .slice Ar nr cr] 66) = wa at hB hG hrW hfW hPW hKW hNV cw hg1 ⊢
      have c0 : w1.cell? ⟨w.heap.size, 0, none⟩ = some (.int .i64 0) := hg1.cell (hB.cell 0) (by simp)
      have c2 : w1.cell? ⟨w.heap.size, 2, none⟩ = some (.slice Ar nr cr) := hg1.cell (hB.cell 2) (by simp)
      have cw1 : w1.cell? ⟨1, 0, none⟩ = some (.string (bstr kw)) := hg1.cell cw (by simp)
      have hr1 := hrW.new hg1
      have hp1 := hPW.new hg1
      go_wp2_with fail
      refine (implRowText_any _ row _ (by exact hr1) hp1).mono ?_
      rintro e w2 ⟨rfl, hg2⟩
      go_wp2_with fail
      go_ret
      exact ⟨by rw [hT.out, bstr_append]; rfl, gb_trans (gb_trans hG.out hg1) hg2⟩
    · have hb0 : ((m : Int) == 0) = false := by simpa using hm0
      have hN0 : ∀ k, nodePre ⟨(m : Int), frm, row⟩ k = kindWord (m : Int) ++ fromText (frm.take k) := fun k => rfl
      have hT : Hid (nodeText ⟨(m : Int), frm, row⟩ = nodePre ⟨(m : Int), frm, row⟩ nf) := by
        show _ = _
        rw [hN0, Hnf.out, List.take_length]
        unfold nodeText
        rw [if_pos Hfit.out, if_neg (by simpa using hm0)]
      clear hm0
      go_enter Tryz.func37, Tryz.ntmps37
      go_wp2_with fail
      refine (nodeFits_b _ _ _ _ (by exact hNV) Hfit.out).mono ?_
      rintro e w1 ⟨rfl, hg1⟩
      generalize w.alloc (.cells #[.int .i64 (m : Int), .slice Af nf cf, .slice Ar nr cr] 66) = wa at hB hG hrW hfW hPW hKW hNV cw hg1 ⊢
      have c0 : w1.cell? ⟨w.heap.size, 0, none⟩ = some (.int .i64 m) := hg1.cell (hB.cell 0) (by simp)
      have c1 : w1.cell? ⟨w.heap.size, 1, none⟩ = some (.slice Af nf cf) := hg1.cell (hB.cell 1) (by simp)
      have cw1 : w1.cell? ⟨1, m, none⟩ = some (.string (bstr (kindWord (m : Int)))) := hg1.cell cw (by simp)
      have hf1 := hfW.new hg1
      have hp1 := hPW.new hg1
      go_wp2_with fail
      clear c0 c1 cw1
      go_loopg [3, 25] (nf + 1) (fun mm s i wr => ∃ k : Nat, k ≤ nf ∧ mm = nf + 1 - k ∧ i = .int .i64 k ∧ s = .string (bstr (nodePre ⟨(m : Int), frm, row⟩ k)) ∧ w1.grownBy wr none)
      case atStart => exact ⟨0, Nat.zero_le _, rfl, rfl, by rw [nodePre_zero], gb_refl _ _⟩
      case round =>
        obtain ⟨k, hk, rfl, rfl, rfl, hg⟩ := hrel
        by_cases hlt : k < nf
        · obtain ⟨g, o, x, rfl, hx, hcell⟩ := (hf1.new hg).at_ hlt
          have hpr := hp1.new hg
          have hxm := Hall.out x (List.mem_of_getElem? hx)
          have hx0 : -1000000000000 ≤ x := by omega
          have hx1 : x ≤ 1000000000000 := by omega
          have hil := itoa_small hxm.1 hxm.2 (by omega)
          have hpl : (nodePre ⟨(m : Int), frm, row⟩ k).length ≤ 47 := nodePre_len (fun y hy => Hall.out y (List.mem_of_mem_take hy)) (by omega)
          have hS : Hid (nodePre ⟨(m : Int), frm, row⟩ (k + 1) = nodePre ⟨(m : Int), frm, row⟩ k ++ (32 :: Lib.itoa x)) := by
            show _ = _
            rw [nodePre_succ hx]
            simp
          have hs1 : ¬ (9223372036854775807 < (⟨#[32]⟩ : ByteArray).size + (bstr (Lib.itoa x)).size) := no_long (a := [32]) (by simp; omega)
          have hs2 : ¬ (9223372036854775807 < (bstr (nodePre ⟨(m : Int), frm, row⟩ k)).size + (bstr (32 :: Lib.itoa x)).size) := no_long (by simp; omega)
          have hap := spacing (Lib.itoa x)
          clear hx hxm hil hpl
          go_wp2_with fail
          refine (itoa_any x _ hpr hx0 hx1).mono ?_
          rintro e w4 ⟨rfl, hg4⟩
          go_wp2_with fail
          go_roundg (nf + 1 - (k + 1))
          case measure => omega
          case rel => exact ⟨k + 1, by omega, rfl, by go_num, by rw [hS.out, ← bstr_append]; rfl, gb_trans hg hg4⟩
        · obtain rfl : k = nf := by omega
          go_wp2_with fail
          go_ret
          exact ⟨by rw [hT.out]; rfl, gb_trans (gb_trans hG.out hg1) hg⟩
  · have hf' : nodeFits nd 10 = false := by simpa using hfit
    have hT : Hid (bstr (nodeText nd) = ⟨#[]⟩) := nodeText_not hf'
    have Hf := Lib.hid hf'
    clear hfit hf'
    go_enter Tryz.func37, Tryz.ntmps37
    go_wp2_with fail
    refine (nodeFits_b _ nd _ _ hNV Hf.out).mono ?_
    rintro e w1 ⟨rfl, hg1⟩
    go_wp2_with fail
    go_ret
    exact ⟨by rw [hT.out] <;> rfl, gb_trans hG.out hg1⟩
end Go.Proofs.YthampfkicnakgaaGreatDoor
