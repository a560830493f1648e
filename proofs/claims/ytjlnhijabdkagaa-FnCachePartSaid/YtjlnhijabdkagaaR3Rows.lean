/- Walks: impl's rows: sums, sorted, turned, RowSums, RowSort, RowTurn. -/
import Derived.Test.YtjlnhijabdkagaaR2Rows
import Derived.Test.YtjlnhijabdkagaaR1bSort
namespace Go.Proofs.Ytjlnhijabdkagaa
open Go.RowKit

theorem sumsFrom_append (s : Int) (l : List Int) (x : Int) : sumsFrom s (l ++ [x]) = sumsFrom s l ++ [((sumsFrom s l).getLast?.getD s + x) % 1009] := by
  induction l generalizing s with
  | nil => rfl
  | cons y ys ih =>
    rw [List.cons_append, sumsFrom, ih, sumsFrom]
    cases h : sumsFrom ((s + y) % 1009) ys with
    | nil => simp
    | cons z zs =>
      have hq : ∃ q, (z :: zs).getLast? = some q := ⟨_, List.getLast?_eq_some_getLast (by simp)⟩
      obtain ⟨q, hq⟩ := hq
      rw [hq, List.getLast?_cons_cons, hq]
      rfl
theorem sums_any (v : Value) (l : List Int) (w : World) (h : RI w v l) (hv : rowValid l = true) : Calls Try.prog 137 #[v] w (IntsOut w (sumsFrom 0 l)) := by
  obtain ⟨A, n, c, rfl, hc, hn⟩ := h.form'
  have hn6 : n ≤ 6 := by rw [hn]; exact rowValid_len hv
  have Hn := Lib.hid hn
  have Hv := Lib.hid hv
  clear hn hv
  obtain ⟨i0, hi, hz0, hz1, hz2⟩ := info_parts info3
  go_enter Try.func137, Try.ntmps137
  go_wp2_with (at_make; go_must (refine wpList_make_full _ rfl _ _ 133 rfl w.heap.size 3 i0 _ 1 Try.underlying133 hi hz0 hz1 _ _ _ _ n rfl rfl rfl rfl (by rw [hz2]; omega) (by unfold maxLen; omega) (Nat.le_refl _) ?_))
  intro w0 hown0 hg0
  have hO0 : OwnI w0 w.heap.size (.slice (some ⟨w.heap.size, 0, none⟩) n n) (List.replicate n 0) := by
    refine OwnI.made ?_
    have e : n * 1 = n := Nat.mul_one n
    first | exact hown0 | (rw [e] at hown0; exact hown0) | (simp at hown0; exact hown0)
  clear hown0
  go_wp2_with fail
  go_loopg [4, 12] (n + 1) (fun mm s i wr => ∃ (k : Nat) (z : Int), k ≤ n ∧ mm = n + 1 - k ∧ i = .int .i64 k ∧ s = .int .i64 z ∧ 0 ≤ z ∧ z ≤ 1008 ∧ Hid (z = (sumsFrom 0 (l.take k)).getLast?.getD 0) ∧ Hid (OwnI wr w.heap.size (.slice (some ⟨w.heap.size, 0, none⟩) n n) (sumsFrom 0 (l.take k) ++ List.replicate (n - k) 0)) ∧ w.grownBy wr none)
  case atStart => exact ⟨0, 0, Nat.zero_le _, rfl, rfl, rfl, by omega, by omega, rfl, hO0, hg0⟩
  case round =>
    clear hO0 hg0
    obtain ⟨k, z, hk, rfl, rfl, rfl, hz0', hz1', Hz, HO, hg⟩ := hrel
    by_cases hlt : k < n
    · obtain ⟨ga, oa, x, rfl, hx, c0⟩ := (h.new hg).at_ hlt
      obtain ⟨hx0, hx1⟩ := rowValid_mem Hv.out (List.mem_of_getElem? hx)
      obtain ⟨hk', hx'⟩ := List.getElem?_eq_some_iff.1 hx
      have hsl : (sumsFrom 0 (l.take k)).length = k := by rw [sumsFrom_len, List.length_take]; omega
      have hsn : sumsFrom 0 (l.take (k + 1)) = sumsFrom 0 (l.take k) ++ [(z + x) % 1009] := by
        rw [List.take_succ_eq_append_getElem hk', hx', sumsFrom_append, ← Hz.out]
      have hll : (sumsFrom 0 (l.take k) ++ List.replicate (n - k) (0 : Int)).length = n := by rw [List.length_append, hsl, List.length_replicate]; omega
      have hz : (sumsFrom 0 (l.take k) ++ List.replicate (n - k) (0 : Int))[k]? = some 0 := by
        rw [List.getElem?_append_right (by omega), hsl, List.getElem?_replicate, if_pos (by omega)]
      have hset : (sumsFrom 0 (l.take k) ++ List.replicate (n - k) (0 : Int)).set k ((z + x) % 1009) = sumsFrom 0 (l.take (k + 1)) ++ List.replicate (n - (k + 1)) 0 := by
        rw [hsn, List.set_append_right _ _ (by omega), hsl, Nat.sub_self, show n - k = n - (k + 1) + 1 by omega, List.replicate_succ, List.set_cons_zero, List.append_assoc]
        rfl
      have Hz2 : Hid ((z + x) % 1009 = (sumsFrom 0 (l.take (k + 1))).getLast?.getD 0) := by
        show _ = _
        rw [hsn, List.getLast?_append]
        simp
      obtain ⟨c2, f2, -, -⟩ := HO.out.cell hz
      have hO2 := HO.out.set_ hll.symm k ((z + x) % 1009)
      rw [hset] at hO2
      have HO2 := Lib.hid hO2
      have hg2 : w.grownBy (wr.setCell ⟨w.heap.size, k, none⟩ (.int .i64 ((z + x) % 1009))) none := gb_set (p := ⟨w.heap.size, k, none⟩) hg (.inl (Nat.le_refl _)) _
      clear hx hk' hx' hsl hsn hll hz hset hO2 HO Hz
      go_wp2_with fail
      go_roundg (n + 1 - (k + 1))
      case measure => omega
      case rel => exact ⟨k + 1, _, by omega, rfl, by go_num, rfl, by omega, by omega, Hz2, HO2, hg2⟩
    · obtain rfl : k = n := by omega
      have hO2 : OwnI wr w.heap.size (.slice (some ⟨w.heap.size, 0, none⟩) k k) (sumsFrom 0 l) := by
        have := HO.out
        rw [Nat.sub_self, List.replicate_zero, List.append_nil, List.take_of_length_le (by rw [← Hn.out]; exact Nat.le_refl _)] at this
        exact this
      clear HO Hz
      go_wp2_with fail
      go_ret
      exact ⟨_, rfl, hO2, hg⟩
/-- Nothing to sort. -/
def NilOut (w : World) (e : Ending) (w' : World) : Prop := e = .returned (.tuple #[]) ∧ w = w'
theorem insertion0_any (w : World) : Calls Try.prog 152 #[.slice none 0 0, .int .i64 0, .int .i64 0] w (NilOut w) := by
  go_enter Try.func152, Try.ntmps152
  go_wp2_with fail
  refine wp_loop_rounds 1 ?_
  rw [rounds_succ]
  go_wp2_with fail
  exact bodyPost_ret (results_none rfl _ _ _) rfl ⟨rfl, rfl⟩
set_option maxRecDepth 100000 in
theorem pdq0_any (lim : Int) (w : World) : Calls Try.prog 150 #[.slice none 0 0, .int .i64 0, .int .i64 0, .int .i64 lim] w (NilOut w) := by
  go_enter Try.func150, Try.ntmps150
  go_wp2_with fail
  refine wp_loop_rounds 1 ?_
  rw [rounds_succ]
  go_wp2_with fail
  refine (insertion0_any _).mono ?_
  rintro e w1 ⟨rfl, rfl⟩
  go_wp2_with fail
  exact bodyPost_ret (results_none rfl _ _ _) rfl ⟨rfl, rfl⟩
theorem sortRows0_any (w : World) : Calls Try.prog 148 #[.slice none 0 0] w (NilOut w) := by
  go_enter Try.func148, Try.ntmps148
  go_wp2_with fail
  refine (bitsLen_any 0 (by omega) _).mono ?_
  rintro e w' ⟨⟨z, rfl⟩, rfl⟩
  go_wp2_with fail
  refine (pdq0_any z _).mono ?_
  rintro e w1 ⟨rfl, rfl⟩
  go_wp2_with fail
  exact bodyPost_ret (results_none rfl _ _ _) rfl ⟨rfl, rfl⟩
theorem sorted_any (v : Value) (l : List Int) (w : World) (h : RI w v l) (hl : l.length ≤ 12) : Calls Try.prog 138 #[v] w (IntsOut w (sortRow l)) := by
  obtain ⟨A, n, c, rfl⟩ := h.val
  go_enter Try.func138, Try.ntmps138
  go_wp2_with (at_builtin; go_must (refine wp_copy_ints _ (.tmp 4) 133 Try.underlying133 rfl rfl h (by omega) (Nat.le_refl _) rfl rfl ?_))
  intro v' w1 ho hg
  rcases ho.2 with ⟨rfl, h0⟩ | ⟨g, cap, cur, rfl, -⟩
  · obtain rfl : l = [] := List.eq_nil_of_length_eq_zero h0
    clear h0 hl
    go_wp2_with fail
    refine (sortRows0_any _).mono ?_
    rintro e w2 ⟨rfl, rfl⟩
    go_wp2_with fail
    go_ret
    exact ⟨_, rfl, ho, hg⟩
  · obtain ⟨m, hm⟩ : ∃ m, m = l.length := ⟨_, rfl⟩
    rw [← hm] at ho hl ⊢
    have Hm := Lib.hid hm
    clear hm
    go_wp2_with fail
    refine (sortRows_any g m cap _ l _ ho Hm.out hl).mono ?_
    rintro e w2 ⟨rfl, ho2, hg2⟩
    have hg3 := ho.gb hg hg2 (Nat.le_refl _)
    go_wp2_with fail
    go_ret
    exact ⟨_, rfl, ho2, hg3⟩
theorem reverse0_any (w : World) : Calls Try.prog 149 #[.slice none 0 0] w (NilOut w) := by
  go_enter Try.func149, Try.ntmps149
  go_wp2_with fail
  refine wp_loop_rounds 1 ?_
  rw [rounds_succ]
  go_wp2_with fail
  exact bodyPost_ret (results_none rfl _ _ _) rfl ⟨rfl, rfl⟩
theorem turned_any (v : Value) (l : List Int) (w : World) (h : RI w v l) (hl : l.length ≤ 12) : Calls Try.prog 139 #[v] w (IntsOut w l.reverse) := by
  obtain ⟨A, n, c, rfl⟩ := h.val
  go_enter Try.func139, Try.ntmps139
  go_wp2_with (at_builtin; go_must (refine wp_copy_ints _ (.tmp 4) 133 Try.underlying133 rfl rfl h (by omega) (Nat.le_refl _) rfl rfl ?_))
  intro v' w1 ho hg
  rcases ho.2 with ⟨rfl, h0⟩ | ⟨g, cap, cur, rfl, -⟩
  · obtain rfl : l = [] := List.eq_nil_of_length_eq_zero h0
    clear h0 hl
    go_wp2_with fail
    refine (reverse0_any _).mono ?_
    rintro e w2 ⟨rfl, rfl⟩
    go_wp2_with fail
    go_ret
    exact ⟨_, rfl, ho, hg⟩
  · obtain ⟨m, hm⟩ : ∃ m, m = l.length := ⟨_, rfl⟩
    rw [← hm] at ho hl ⊢
    have Hm := Lib.hid hm
    clear hm
    go_wp2_with fail
    refine (reverse_any g m cap _ l _ ho Hm.out (by omega)).mono ?_
    rintro e w2 ⟨rfl, ho2, hg2⟩
    have hg3 := ho.gb hg hg2 (Nat.le_refl _)
    go_wp2_with fail
    go_ret
    exact ⟨_, rfl, ho2, hg3⟩
theorem implRowSums_any (v : Value) (l : List Int) (w : World) (h : RI w v l) : Calls Try.prog 111 #[v] w (RowOut w (rowSums l)) := by
  obtain ⟨A, n, c, rfl⟩ := h.val
  by_cases hv : rowValid l = true
  · have Hr : Hid (rowSums l = some (sumsFrom 0 l)) := by show _ = _; unfold rowSums; rw [if_pos hv]
    have Hv := Lib.hid hv
    clear hv
    go_enter Try.func111, Try.ntmps111
    go_wp2_with fail
    refine (rvValid_any _ l _ h).mono ?_
    rw [Hv.out]
    rintro e w1 ⟨rfl, rfl⟩
    go_wp2_with fail
    refine (sums_any _ l _ h Hv.out).mono ?_
    rintro e w2 ⟨v2, rfl, ho, hg⟩
    obtain ⟨A', n', c', rfl⟩ := ho.ri.val
    go_wp2_with fail
    go_ret2
    exact ⟨_, by rw [Hr.out]; rfl, by rw [Hr.out]; exact ho, hg⟩
  · have hv' : rowValid l = false := by simpa using hv
    have Hr : Hid (rowSums l = none) := by show _ = _; unfold rowSums; rw [if_neg hv]
    have Hv := Lib.hid hv'
    clear hv hv'
    go_enter Try.func111, Try.ntmps111
    go_wp2_with fail
    refine (rvValid_any _ l _ h).mono ?_
    rw [Hv.out]
    rintro e w1 ⟨rfl, rfl⟩
    go_wp2_with fail
    go_ret2
    exact ⟨_, by rw [Hr.out]; rfl, by rw [Hr.out]; exact OwnI.nil _ _, gb_refl _ _⟩
theorem implRowSort_any (v : Value) (l : List Int) (w : World) (h : RI w v l) : Calls Try.prog 112 #[v] w (RowOut w (rowSort l)) := by
  obtain ⟨A, n, c, rfl⟩ := h.val
  by_cases hv : rowValid l = true
  · have Hr : Hid (rowSort l = some (sortRow l)) := by show _ = _; unfold rowSort; rw [if_pos hv]
    have Hv := Lib.hid hv
    clear hv
    go_enter Try.func112, Try.ntmps112
    go_wp2_with fail
    refine (rvValid_any _ l _ h).mono ?_
    rw [Hv.out]
    rintro e w1 ⟨rfl, rfl⟩
    go_wp2_with fail
    refine (sorted_any _ l _ h (by have := rowValid_len Hv.out; omega)).mono ?_
    rintro e w2 ⟨v2, rfl, ho, hg⟩
    obtain ⟨A', n', c', rfl⟩ := ho.ri.val
    go_wp2_with fail
    go_ret2
    exact ⟨_, by rw [Hr.out]; rfl, by rw [Hr.out]; exact ho, hg⟩
  · have hv' : rowValid l = false := by simpa using hv
    have Hr : Hid (rowSort l = none) := by show _ = _; unfold rowSort; rw [if_neg hv]
    have Hv := Lib.hid hv'
    clear hv hv'
    go_enter Try.func112, Try.ntmps112
    go_wp2_with fail
    refine (rvValid_any _ l _ h).mono ?_
    rw [Hv.out]
    rintro e w1 ⟨rfl, rfl⟩
    go_wp2_with fail
    go_ret2
    exact ⟨_, by rw [Hr.out]; rfl, by rw [Hr.out]; exact OwnI.nil _ _, gb_refl _ _⟩
theorem implRowTurn_any (v : Value) (l : List Int) (w : World) (h : RI w v l) : Calls Try.prog 113 #[v] w (RowOut w (rowTurn l)) := by
  obtain ⟨A, n, c, rfl⟩ := h.val
  by_cases hv : rowValid l = true
  · have Hr : Hid (rowTurn l = some (l.reverse)) := by show _ = _; unfold rowTurn; rw [if_pos hv]
    have Hv := Lib.hid hv
    clear hv
    go_enter Try.func113, Try.ntmps113
    go_wp2_with fail
    refine (rvValid_any _ l _ h).mono ?_
    rw [Hv.out]
    rintro e w1 ⟨rfl, rfl⟩
    go_wp2_with fail
    refine (turned_any _ l _ h (by have := rowValid_len Hv.out; omega)).mono ?_
    rintro e w2 ⟨v2, rfl, ho, hg⟩
    obtain ⟨A', n', c', rfl⟩ := ho.ri.val
    go_wp2_with fail
    go_ret2
    exact ⟨_, by rw [Hr.out]; rfl, by rw [Hr.out]; exact ho, hg⟩
  · have hv' : rowValid l = false := by simpa using hv
    have Hr : Hid (rowTurn l = none) := by show _ = _; unfold rowTurn; rw [if_neg hv]
    have Hv := Lib.hid hv'
    clear hv hv'
    go_enter Try.func113, Try.ntmps113
    go_wp2_with fail
    refine (rvValid_any _ l _ h).mono ?_
    rw [Hv.out]
    rintro e w1 ⟨rfl, rfl⟩
    go_wp2_with fail
    go_ret2
    exact ⟨_, by rw [Hr.out]; rfl, by rw [Hr.out]; exact OwnI.nil _ _, gb_refl _ _⟩
end Go.Proofs.Ytjlnhijabdkagaa
