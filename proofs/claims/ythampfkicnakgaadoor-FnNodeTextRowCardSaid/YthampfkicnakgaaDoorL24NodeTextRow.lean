/- Walks: laws.FnNodeTextRow. -/
import Derived.Test.YthampfkicnakgaaDoorL23NodeText
namespace Go.Proofs.YthampfkicnakgaaDoor
open Go.RowKit
theorem nodeText_row {x : Node} (h : nodeFits x 10 = true) (hk : x.kind = 0) : nodeText x = kindWord 0 ++ (32 :: rowTextOf x.row) := by
  obtain ⟨-, -, -, -, hr, -⟩ := fits_parts h
  unfold nodeText rowTextOf
  rw [if_pos h, if_pos hk, if_pos (hr hk)]
theorem bstr_tail (a b : List UInt8) : (bstr (a ++ b)).extract a.length (a.length + b.length) = bstr b := by
  apply ByteArray.ext
  simp [bstr]
set_option maxHeartbeats 800000 in
set_option maxRecDepth 20000 in
theorem fnNodeTextRow_any (w : World) (v : Value) (n : Nat) (h : Bytes w w.heap.size v n) (hn : n ≤ 9223372036854775807) (hp : PTab w) (hkw : KWords w) :
    Calls Tryd.prog 6 #[v] w fun e w' => e = .returned (.bool true) ∧ w.grownBy w' none := by
  obtain ⟨A, c, rfl, h2⟩ := id h
  have H := Lib.hid h
  have HK := Lib.hid hkw
  clear h h2 hkw
  by_cases hbig : 1048576 < n
  · go_enter Tryd.func6, Tryd.ntmps6
    go_wp2_with fail
    go_ret
    exact ⟨rfl, gb_refl _ _⟩
  · go_enter Tryd.func6, Tryd.ntmps6
    go_wp2_with fail
    refine (drawNodeText_any _ _ n H.out (by omega)).mono ?_
    rintro e w1 ⟨v1, nd, rfl, hnv, hg1⟩
    obtain ⟨fv, rv, rfl, hf, hr⟩ := hnv
    obtain ⟨Af, nf, cf, rfl⟩ := hf.val
    obtain ⟨Ar, nr, cr, rfl⟩ := hr.val
    have hB := Blk.new w1 31 #[.int .i64 nd.kind, .slice Af nf cf, .slice Ar nr cr]
    have hga := World.grownBy_alloc w1 (.cells #[.int .i64 nd.kind, .slice Af nf cf, .slice Ar nr cr] 31) none
    go_upto_region 4 with fail
    generalize w1.alloc (.cells #[.int .i64 nd.kind, .slice Af nf cf, .slice Ar nr cr] 31) = wa at hB hga ⊢
    have hNV : NV wa (.agg #[.int .i64 nd.kind, .slice Af nf cf, .slice Ar nr cr]) nd := ⟨_, _, rfl, hf.new hga, hr.new hga⟩
    have hra := hr.new hga
    have hg2 := gb_trans hg1 hga
    have hKWa := HK.out.new hg2
    clear hf hr hg1 hga
    have x0 := hB.cell 0
    have x1 := hB.cell 1
    have x2 := hB.cell 2
    go_wp2_with fail
    refine (implNodeText_any _ nd _ (by exact hNV) (hp.new hg2) hKWa).mono ?_
    rintro e w3 ⟨rfl, hg3⟩
    have hNV3 : NV w3 (.agg #[.int .i64 nd.kind, .slice Af nf cf, .slice Ar nr cr]) nd := by
      obtain ⟨f', r', e0, hf, hr⟩ := hNV
      exact ⟨_, _, e0, hf.new hg3, hr.new hg3⟩
    have hB3 := hB.grown hg3 (by simp)
    have hr3 := hra.new hg3
    replace hg3 := gb_trans hg2 hg3
    clear x0 x1 x2 hB hg2 hKWa
    have x0 := hB3.cell 0
    have x1 := hB3.cell 1
    have x2 := hB3.cell 2
    go_wp2_with fail
    refine (specNodeText_any _ nd _ (by exact hNV3)).mono ?_
    rintro e w4 ⟨rfl, hg4⟩
    have hB4 := hB3.grown hg4 (by simp)
    have hr4 := hr3.new hg4
    replace hg4 := gb_trans hg3 hg4
    clear x0 x1 x2 hB3 hg3
    have x0 : w4.cell? ⟨w1.heap.size, 0, none⟩ = some (.int .i64 nd.kind) := hB4.cell 0
    have x2 : w4.cell? ⟨w1.heap.size, 2, none⟩ = some (.slice Ar nr cr) := hB4.cell 2
    clear hNV hNV3 hB4
    by_cases hfit : nodeFits nd 10 = true
    · have hne : (bstr (nodeText nd)).toList.isEmpty = false := bstr_isEmpty' (nodeText_ne hfit)
      by_cases hk : nd.kind = 0
      · have hb : (nd.kind != 0) = false := by simpa using hk
        have hT := nodeText_row hfit hk
        have hlen := nodeText_len hfit
        have hS : Hid ((bstr (nodeText nd)).extract ((bstr (nodeText nd)).size - (bstr (rowTextOf nd.row)).size) (bstr (nodeText nd)).size = bstr (rowTextOf nd.row)) := by
          show _ = _
          have e1 : (kindWord 0 ++ (32 :: rowTextOf nd.row)) = (kindWord 0 ++ [32]) ++ rowTextOf nd.row := by simp
          rw [hT, e1, bstr_size, bstr_size, List.length_append, Nat.add_sub_cancel]
          exact bstr_tail _ _
        have hlt : (bstr (rowTextOf nd.row)).size < (bstr (nodeText nd)).size := by
          rw [bstr_size, bstr_size, hT]
          simp
          omega
        have hle : (bstr (nodeText nd)).size ≤ 300 := by rw [bstr_size]; exact hlen
        clear hfit hk hT hlen
        go_wp2_with fail
        refine (implRowText_any _ nd.row _ (by exact hr4) (hp.new hg4)).mono ?_
        rintro e w5 ⟨rfl, hg5⟩
        go_wp2_with fail
        go_ret
        refine ⟨?_, gb_trans hg4 hg5⟩
        show Ending.returned (Value.bool (_ == _)) = _
        rw [hS.out, beq_self_eq_true]
      · have hb : (nd.kind != 0) = true := by simpa using hk
        clear hfit hk
        go_wp2_with fail
        go_ret
        exact ⟨rfl, hg4⟩
    · have hf' : nodeFits nd 10 = false := by simpa using hfit
      have hbe : bstr (nodeText nd) = ⟨#[]⟩ := nodeText_not hf'
      rw [hbe]
      clear hfit hf' hbe
      go_wp2_with fail
      go_ret
      exact ⟨rfl, hg4⟩
end Go.Proofs.YthampfkicnakgaaDoor
