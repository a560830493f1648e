/- Walks: spec.DrawNodeText, laws.FnNodeText, laws.FnNodeTextRow. -/
import Derived.Test.YthampfkicnakgaaDoorT14Node
import Derived.Test.YthampfkicnakgaaDoorB5Node
namespace Go.Proofs.YthampfkicnakgaaDoor
open Go.RowKit

theorem Bytes.mono {w : World} {B0 B1 n : Nat} {v : Value} (h : Bytes w B0 v n) (hB : B0 ≤ B1) : Bytes w B1 v n := by
  obtain ⟨A, c, rfl, hnc, hc⟩ := h
  exact ⟨A, c, rfl, hnc, fun h0 => by obtain ⟨x, rfl, hx, hz⟩ := hc h0; exact ⟨x, rfl, by omega, hz⟩⟩
def DrawnNode (w : World) (e : Ending) (w' : World) : Prop := ∃ v nd, e = .returned v ∧ NV w' v nd ∧ w.grownBy w' none
set_option maxHeartbeats 800000 in
set_option maxRecDepth 20000 in
theorem drawNodeText_any (w : World) (v : Value) (n : Nat) (h : Bytes w w.heap.size v n) (hn : n ≤ 1048576) : Calls Tryd.prog 16 #[v] w (DrawnNode w) := by
  have hg0 := World.grownBy_alloc w (.cells #[.int .i64 0, .slice none 0 0, .slice none 0 0] 31) none
  have hsz : (w.alloc (.cells #[.int .i64 0, .slice none 0 0, .slice none 0 0] 31)).heap.size = w.heap.size + 1 := World.size_alloc _ _
  have hb0 := (h.kept hg0 (Nat.le_refl _) (fun g e => by cases e)).mono (B1 := (w.alloc (.cells #[.int .i64 0, .slice none 0 0, .slice none 0 0] 31)).heap.size) (by omega)
  obtain ⟨A, c, rfl, h2⟩ := id h
  clear h h2
  go_enter Tryd.func16, Tryd.ntmps16
  go_wp2_with fail
  have hR := Blk.new w 31 #[.int .i64 0, .slice none 0 0, .slice none 0 0]
  generalize w.alloc (.cells #[.int .i64 0, .slice none 0 0, .slice none 0 0] 31) = wa at hR hg0 hb0 hsz ⊢
  refine (l6Open_any wa _ n (by exact hb0) hn).mono ?_
  rintro e w1 ⟨rb, rfl, hrd, hg1⟩
  have hrb := hrd.le
  go_wp2_with fail
  refine (pick_any wa.heap.size rb 0 _ _ (by exact hrd) (by omega) (by omega)).mono ?_
  rintro e w2 ⟨r1, rfl, -, _, hrd2, hg2⟩
  go_wp2_with fail
  refine (pick_any wa.heap.size rb _ _ _ (by exact hrd2) (by omega) (by omega)).mono ?_
  rintro e w3 ⟨r2, rfl, hr2, _, hrd3, hg3⟩
  have hr2' := hr2 (by omega)
  obtain ⟨m, hm⟩ := Int.eq_ofNat_of_zero_le hr2'.1
  subst hm
  have hm7 : m ≤ 20 := by omega
  clear hr2 hr2'
  go_wp2_with fail
  refine (l91Node_any wa.heap.size rb _ _ m _ (by exact hrd3) (by omega) (by omega) hm7).mono ?_
  rintro e w4 ⟨v4, nd, rfl, hnv, -, -, p', hp1, hp2, hrd4, hg4⟩
  obtain ⟨fv, rv, rfl, hf, hr⟩ := hnv
  obtain ⟨Af, nf, cf, rfl⟩ := hf.val
  obtain ⟨Ar, nr, cr, rfl⟩ := hr.val
  have hne : some w.heap.size ≠ some rb := by intro e; cases e; omega
  have hR4 := (((hR.grown hg1 (by simp)).grown hg2 hne).grown hg3 hne).grown hg4 hne
  have hgw4 : w.grownBy w4 none := by
    have h0 : wa.grownBy w4 (some rb) := gb_trans (gb_trans (gb_trans (gb_some hg1 _) hg2) hg3) hg4
    exact gb_new hg0 h0 (fun g e => by cases e; exact .inl (by omega))
  clear hR hg1 hg2 hg3 hg4 hrd hrd2 hrd3 hb0 hg0
  go_wp2_with fail
  have hX := Blk.new w4 31 #[.int .i64 nd.kind, .slice Af nf cf, .slice Ar nr cr]
  have hg4a := World.grownBy_alloc w4 (.cells #[.int .i64 nd.kind, .slice Af nf cf, .slice Ar nr cr] 31) none
  have hR4a := hR4.alloc (.cells #[.int .i64 nd.kind, .slice Af nf cf, .slice Ar nr cr] 31)
  have hsz4 := hgw4.size
  have hrb4 : rb < w4.heap.size := hrd4.lt
  have hRlt : w.heap.size ≠ w4.heap.size := by omega
  generalize hxb : w4.heap.size = xb at hX hRlt hrb4 ⊢
  generalize w4.alloc (.cells #[.int .i64 nd.kind, .slice Af nf cf, .slice Ar nr cr] 31) = wb at hX hg4a hR4a ⊢
  have hnx : some xb ≠ some rb := by intro e; cases e; omega
  refine (pick_any wa.heap.size rb _ _ _ (by exact hrd4.new hg4a) (by omega) (by omega)).mono ?_
  rintro e w5 ⟨r5, rfl, -, _, hrd5, hg5⟩
  have hX5 := hX.grown hg5 hnx
  have hR5 := hR4a.grown hg5 hne
  have hf5 := (hf.new hg4a).grown hg5 (hrd4.new hg4a |>.notE (by decide))
  have hr5 := (hr.new hg4a).grown hg5 (hrd4.new hg4a |>.notE (by decide))
  have hgw5 : w.grownBy w5 none := gb_new (gb_trans hgw4 hg4a) hg5 (fun g e => by cases e; exact .inl (by omega))
  clear hX hR4a hf hr hg5 hgw4 hg4a hR4 hrd4
  have fin : ∀ (kind : Int) (w6 : World), Blk w6 xb 31 #[.int .i64 kind, .slice Af nf cf, .slice Ar nr cr] → Blk w6 w.heap.size 31 #[.int .i64 0, .slice none 0 0, .slice none 0 0] → RI w6 (.slice Af nf cf) nd.frm → RI w6 (.slice Ar nr cr) nd.row → w.grownBy w6 none →
      DrawnNode w (.returned (.agg #[.int .i64 kind, .slice Af nf cf, .slice Ar nr cr])) (((w6.setCell ⟨w.heap.size, 0, none⟩ (.int .i64 kind)).setCell ⟨w.heap.size, 1, none⟩ (.slice Af nf cf)).setCell ⟨w.heap.size, 2, none⟩ (.slice Ar nr cr)) := by
    intro kind w6 hX6 hR6 hf6 hr6 hg6
    have hst := gb_set3 w6 w.heap.size (.int .i64 kind) (.slice Af nf cf) (.slice Ar nr cr)
    have hN : NotE w6 3 (some w.heap.size) := NotE.blk hR6 (by decide)
    exact ⟨_, ⟨kind, nd.frm, nd.row⟩, rfl, ⟨_, _, rfl, hf6.grown hst hN, hr6.grown hst hN⟩, gb_new hg6 hst (fun g e => by cases e; exact .inl (Nat.le_refl _))⟩
  by_cases h12 : r5 = 0
  · subst h12
    go_wp2_with fail
    refine (pick_any wa.heap.size rb _ _ _ (by exact hrd5) (by omega) (by omega)).mono ?_
    rintro e w6 ⟨r6, rfl, hr6, _, hrd6, hg6⟩
    have hb6 := hr6 (by omega)
    obtain ⟨hb60, hb61⟩ := hb6
    have hX6 := hX5.grown hg6 hnx
    have hR6 := hR5.grown hg6 hne
    have hf6 := hf5.grown hg6 (hrd5.notE (by decide))
    have hr6 := hr5.grown hg6 (hrd5.notE (by decide))
    have hgw6 : w.grownBy w6 none := gb_new hgw5 hg6 (fun g e => by cases e; exact .inl (by omega))
    have hst : w6.grownBy (w6.setCell ⟨xb, 0, none⟩ (.int .i64 (r6 - 1))) (some xb) := gb_set (gb_refl w6 (some xb)) (.inr rfl) _
    have hN := NotE.blk (E := 3) hX6 (by decide)
    have F := fin (r6 - 1) _ (hX6.set_ 0 (.int .i64 (r6 - 1))) (hR6.far hRlt _) (hf6.grown hst hN) (hr6.grown hst hN) (gb_set hgw6 (.inl (by show w.heap.size ≤ xb; omega)) _)
    have x0 := hX6.cell 0
    have x1 := hX6.cell 1
    have x2 := hX6.cell 2
    have y0 := hX6.frozen 0
    have d0 := hR6.cell 0
    have d1 := hR6.cell 1
    have d2 := hR6.cell 2
    have f0 := hR6.frozen 0
    have f1 := hR6.frozen 1
    have f2 := hR6.frozen 2
    clear fin
    go_wp2_with fail
    refine bodyPost_ret (v := .agg #[.int .i64 (r6 - 1), .slice Af nf cf, .slice Ar nr cr]) (by simp [results, Tryd.results16, go_sem, d0, d1, d2]) rfl ?_
    exact F
  · have hb : (r5 == 0) = false := by simpa using h12
    have F := fin _ _ hX5 hR5 hf5 hr5 hgw5
    have x0 := hX5.cell 0
    have x1 := hX5.cell 1
    have x2 := hX5.cell 2
    have d0 := hR5.cell 0
    have d1 := hR5.cell 1
    have d2 := hR5.cell 2
    have f0 := hR5.frozen 0
    have f1 := hR5.frozen 1
    have f2 := hR5.frozen 2
    clear fin
    go_wp2_with fail
    refine bodyPost_ret (v := .agg #[.int .i64 nd.kind, .slice Af nf cf, .slice Ar nr cr]) (by simp [results, Tryd.results16, go_sem, d0, d1, d2]) rfl ?_
    exact F
/-- Blanks in a text. -/
def blanks (l : List UInt8) : Nat := l.countP (fun b => b == 32)
theorem blanks_append (a b : List UInt8) : blanks (a ++ b) = blanks a + blanks b := List.countP_append
theorem blanks_cons (b : List UInt8) : blanks (32 :: b) = 1 + blanks b := by
  unfold blanks
  rw [List.countP_cons_of_pos (by rfl)]
  omega
theorem blanks_none {l : List UInt8} (h : ∀ b ∈ l, b ≠ 32) : blanks l = 0 := by
  unfold blanks
  rw [List.countP_eq_zero]
  intro b hb
  simpa using h b hb
theorem blanks_itoa {x : Int} (h : 0 ≤ x) : blanks (Lib.itoa x) = 0 := by
  obtain ⟨m, rfl⟩ := Int.eq_ofNat_of_zero_le h
  refine blanks_none (fun b hb => ?_)
  rw [show Lib.itoa (m : Int) = Lib.decDigits m from itoa_nat m] at hb
  have := dec_mem b hb
  rintro rfl
  revert this
  decide
theorem blanks_word (k : Int) : blanks (kindWord k) = 0 := by
  unfold kindWord
  repeat' split
  all_goals decide
theorem blanks_from {l : List Int} (h : ∀ y ∈ l, 0 ≤ y) : blanks (fromText l) = l.length := by
  unfold fromText
  induction l with
  | nil => rfl
  | cons x r ih =>
    have e := ih (fun y hy => h y (by simp [hy]))
    rw [List.map_cons, List.flatten_cons, blanks_append, e, blanks_cons, blanks_itoa (h x (by simp)), List.length_cons]
    omega
theorem nodeText_blanks {x : Node} (h : nodeFits x 10 = true) : blanks (nodeText x) = if x.frm.length = 0 then 1 else x.frm.length := by
  obtain ⟨⟨h0, h5⟩, hn, -, hall, hr, -⟩ := fits_parts h
  unfold nodeText
  rw [if_pos h]
  by_cases hk : x.kind = 0
  · have e0 : x.frm.length = 0 := by rw [hk] at hn; simp [kindNeeds] at hn; simpa using hn
    rw [if_pos hk, if_pos e0, blanks_append, blanks_cons, blanks_word, blanks_none (fun b hb => (rowText_mem (hr hk) b hb).1)]
  · have hpos : 1 ≤ kindNeeds x.kind := by
      rcases (show x.kind = 1 ∨ x.kind = 2 ∨ x.kind = 3 ∨ x.kind = 4 ∨ x.kind = 5 by omega) with e | e | e | e | e <;> rw [e] <;> decide
    rw [if_neg hk, if_neg (by omega), blanks_append, blanks_word, blanks_from (fun y hy => (hall y hy).1)]
    omega
theorem nodeText_ne {x : Node} (h : nodeFits x 10 = true) : nodeText x ≠ [] := by
  intro e
  have := nodeText_blanks h
  rw [e] at this
  have k : (0 : Nat) = if x.frm.length = 0 then 1 else x.frm.length := this
  split at k <;> omega
theorem nodeText_len {x : Node} (h : nodeFits x 10 = true) : (nodeText x).length ≤ 300 := by
  obtain ⟨-, -, h2, hall, hr, -⟩ := fits_parts h
  have hw := kindWord_len x.kind
  unfold nodeText
  rw [if_pos h]
  by_cases hk : x.kind = 0
  · rw [if_pos hk]
    rw [hk] at hw
    have hrt : (rowText x.row).length ≤ 200 := by
      by_cases hl0 : x.row = []
      · rw [hl0]; decide
      · rw [← rowPre_all hl0]
        exact rowPre_len (hr hk) _
    simp
    omega
  · rw [if_neg hk]
    have := fromText_len (l := x.frm) (fun y hy => by have := hall y hy; omega)
    rw [List.length_append]
    omega
theorem bstr_isEmpty' {l : List UInt8} (h : l ≠ []) : (bstr l).toList.isEmpty = false := by
  rw [ByteArray.toList_eq]
  cases l with
  | nil => exact absurd rfl h
  | cons x r => rfl
set_option maxHeartbeats 800000 in
set_option maxRecDepth 20000 in
theorem fnNodeText_any (w : World) (v : Value) (n : Nat) (h : Bytes w w.heap.size v n) (hn : n ≤ 9223372036854775807) (hp : PTab w) (hkw : KWords w) :
    Calls Tryd.prog 5 #[v] w fun e w' => e = .returned (.bool true) ∧ w.grownBy w' none := by
  obtain ⟨A, c, rfl, h2⟩ := id h
  have H := Lib.hid h
  have HK := Lib.hid hkw
  clear h h2 hkw
  by_cases hbig : 1048576 < n
  · go_enter Tryd.func5, Tryd.ntmps5
    go_wp2_with fail
    go_ret
    exact ⟨rfl, gb_refl _ _⟩
  · go_enter Tryd.func5, Tryd.ntmps5
    go_wp2_with fail
    refine (drawNodeText_any _ _ n H.out (by omega)).mono ?_
    rintro e w1 ⟨v1, nd, rfl, hnv, hg1⟩
    obtain ⟨fv, rv, rfl, hf, hr⟩ := hnv
    obtain ⟨Af, nf, cf, rfl, _, hnf⟩ := hf.form'
    obtain ⟨Ar, nr, cr, rfl⟩ := hr.val
    have Hnf := Lib.hid hnf
    clear hnf
    have hB := Blk.new w1 31 #[.int .i64 nd.kind, .slice Af nf cf, .slice Ar nr cr]
    have hga := World.grownBy_alloc w1 (.cells #[.int .i64 nd.kind, .slice Af nf cf, .slice Ar nr cr] 31) none
    go_upto_region 4 with fail
    generalize w1.alloc (.cells #[.int .i64 nd.kind, .slice Af nf cf, .slice Ar nr cr] 31) = wa at hB hga ⊢
    have hNV : NV wa (.agg #[.int .i64 nd.kind, .slice Af nf cf, .slice Ar nr cr]) nd := ⟨_, _, rfl, hf.new hga, hr.new hga⟩
    have hg2 := gb_trans hg1 hga
    have hKWa := HK.out.new hg2
    clear hf hr hg1 hga
    have x0 := hB.cell 0
    have x1 := hB.cell 1
    have x2 := hB.cell 2
    go_wp2_with fail
    refine (implNodeText_any _ nd _ (by exact hNV) (hp.new hg2) hKWa).mono ?_
    rintro e w3 ⟨rfl, hg3⟩
    have hNV3 : NV w3 (.agg #[.int .i64 nd.kind, .slice Af nf cf, .slice Ar nr cr]) nd := by
      obtain ⟨f', r', e0, hf, hr⟩ := hNV
      exact ⟨_, _, e0, hf.new hg3, hr.new hg3⟩
    have hB3 := hB.grown hg3 (by simp)
    replace hg3 := gb_trans hg2 hg3
    clear x0 x1 x2 hB hg2 hKWa
    have x0 := hB3.cell 0
    have x1 := hB3.cell 1
    have x2 := hB3.cell 2
    go_wp2_with fail
    refine (specNodeText_any _ nd _ (by exact hNV3)).mono ?_
    rintro e w4 ⟨rfl, hg4⟩
    have hB4 := hB3.grown hg4 (by simp)
    replace hg4 := gb_trans hg3 hg4
    clear x0 x1 x2 hB3 hg3
    have x1 : w4.cell? ⟨w1.heap.size, 1, none⟩ = some (.slice Af nf cf) := hB4.cell 1
    clear hNV hNV3 hB4
    by_cases hfit : nodeFits nd 10 = true
    · have hne : (bstr (nodeText nd)).toList.isEmpty = false := bstr_isEmpty' (nodeText_ne hfit)
      have hbl := Lib.hid (nodeText_blanks hfit)
      have hlen := nodeText_len hfit
      obtain ⟨-, -, hf2, -, -, -⟩ := fits_parts hfit
      rw [← Hnf.out] at hf2
      clear hfit
      generalize hT : nodeText nd = T at hne hbl hlen ⊢
      clear hT
      go_wp2_with fail
      go_loopg [6, 7] (T.length + 1) (fun mm c i wr => ∃ k : Nat, k ≤ T.length ∧ mm = T.length + 1 - k ∧ i = .int .i64 k ∧ c = .int .i64 (blanks (T.take k)) ∧ wr = w4)
      case atStart => exact ⟨0, Nat.zero_le _, rfl, rfl, rfl, rfl⟩
      case round =>
        obtain ⟨k, hk, rfl, rfl, rfl, rfl⟩ := hrel
        by_cases hlt : k < T.length
        · have hsz : (bstr T).size = T.length := bstr_size T
          have hget : (bstr T)[k]'(by rw [bstr_size]; exact hlt) = T[k] := rfl
          have htk : T.take (k + 1) = T.take k ++ [T[k]] := List.take_succ_eq_append_getElem hlt
          by_cases hbk : T[k] = 32
          · have hq : ((((bstr T)[k]'(by rw [bstr_size]; exact hlt)).toNat : Int) == 32) = true := by rw [hget, hbk]; rfl
            have hS : Hid (blanks (T.take (k + 1)) = blanks (T.take k) + 1) := by
              show _ = _
              rw [htk, hbk, blanks_append]
              rfl
            have hbb : blanks (T.take k) ≤ 300 := by
              have := List.countP_le_length (p := fun b : UInt8 => b == 32) (l := T.take k)
              rw [List.length_take] at this
              unfold blanks
              omega
            clear hbk hget htk
            go_wp2_with fail
            go_roundg (T.length + 1 - (k + 1))
            case measure => omega
            case rel => exact ⟨k + 1, by omega, rfl, by go_num, by rw [hS.out]; go_num, rfl⟩
          · have hq : ((((bstr T)[k]'(by rw [bstr_size]; exact hlt)).toNat : Int) == 32) = false := by
              rw [hget]
              have : T[k].toNat ≠ 32 := fun e => hbk (UInt8.toNat_inj.1 e)
              simp
              omega
            have hS : Hid (blanks (T.take (k + 1)) = blanks (T.take k)) := by
              show _ = _
              rw [htk, blanks_append, blanks_none (l := [T[k]]) (by simpa using hbk)]
              rfl
            clear hbk hget htk
            go_wp2_with fail
            go_roundg (T.length + 1 - (k + 1))
            case measure => omega
            case rel => exact ⟨k + 1, by omega, rfl, by go_num, by rw [hS.out], rfl⟩
        · have hkT : k = T.length := by omega
          have hsz : (bstr T).size = T.length := bstr_size T
          have hlk : ¬ ((k : Int) < (T.length : Int)) := by omega
          have hb2 : blanks (T.take k) = if nf = 0 then 1 else nf := by
            rw [hkT, List.take_length, hbl.out, ← Hnf.out]
          rw [hb2]
          rcases (show nf = 0 ∨ nf = 1 ∨ nf = 2 by omega) with e0 | e0 | e0
          all_goals
            subst e0
            go_wp2_with fail
            go_ret
            exact ⟨rfl, hg4⟩
    · have hf' : nodeFits nd 10 = false := by simpa using hfit
      have hbe : bstr (nodeText nd) = ⟨#[]⟩ := nodeText_not hf'
      rw [hbe]
      clear hfit hf' hbe
      go_wp2_with fail
      go_ret
      exact ⟨rfl, hg4⟩
end Go.Proofs.YthampfkicnakgaaDoor
