/- Walks: impl's rows: copyInts, join, sums, turned, RowAdd, RowTimes, RowSums, RowTurn. -/
import Derived.Test.YtjlnhijabdkagaaR1Sort
import Derived.Test.YtjlnhijabdkagaaC3Fits
import Derived.IntWalk
import Derived.Laws.AppendOwnNone
namespace Go.Proofs.Ytjlnhijabdkagaa
open Go.RowKit

def RowOut (w : World) (r : Option (List Int)) (e : Ending) (w' : World) : Prop := ∃ v, e = .returned (.tuple #[v, .bool r.isSome]) ∧ OwnI w' w.heap.size v (r.getD []) ∧ w.grownBy w' none
/-- 'append(T(nil), x...)': a copy. -/
theorem wp_copy_ints {ops : Array Oper} {rest : List Oper} {o : Oper} {a : Act} {Q : Exit → Act → World → Prop} {w : World}
    (s x : Operand) (t : TypeId) (ht : Try.prog.underlying t = some (.slice 3)) (hgd : o.guard = none) (ho : o.op = .call { callee := .builtin .append, args := #[s, x], argTypes := #[t, t] })
    {base : Nat} {xv : Value} {l : List Int} (hxv : RI w xv l) (hn : l.length ≤ 1000000000) (hbase : base ≤ w.heap.size)
    (hs : a.eval s = .slice none 0 0) (hx : a.eval x = xv)
    (h : ∀ v' w', OwnI w' base v' l → w.grownBy w' none → wpList Try.prog ops Q rest (a.put o.dst v') w') :
    wpList Try.prog ops Q (o :: rest) a w := by
  obtain ⟨i, hi, hz0, hz1, hz2⟩ := info_parts info3
  obtain ⟨A, c, e, hc, hcm, hcn⟩ := TS.form hxv
  subst e
  match A, hcn with
  | none, hcn =>
    obtain rfl := hcn rfl
    have hl0 : l = [] := List.eq_nil_of_length_eq_zero (by omega)
    subst hl0
    refine wpList_append_own_none hgd s x t ho base 3 i 1 ht hi (.slice none 0 0) 0 [] hs (World.ownsRow_nil _ _ _ _) hx ?_
    exact h _ _ (OwnI.nil _ _) (gb_refl _ _)
  | some ad, hcn =>
    refine wpList_append_own _ hgd s x t ho base 3 i _ 1 8 ht hi hz0 hz1 hz2 rfl (by decide) (.slice none 0 0) 0 [] hs (World.ownsRow_nil _ _ _ _) ad l.length c (l.map (.int .i64)) hx (by rw [List.length_map, Nat.mul_one]) ?_ (ints_one l) ?_ ?_ hbase ?_
    · intro j u hj
      have hjl := (List.getElem?_eq_some_iff.1 hj).1
      rw [List.length_map] at hjl
      obtain ⟨g, o', cur, e, _, hcell⟩ := TS.at_ hxv (by omega)
      have e2 : ad = ⟨g, o', none⟩ := Option.some.inj e
      rw [e2, Addr.add_lit]
      exact hcell j u hj
    · unfold maxLen; omega
    · omega
    · intro v' w' h1 h2 _
      refine h v' w' ?_ h2
      unfold OwnI
      simpa using h1
theorem copyInts_any (v : Value) (l : List Int) (w : World) (h : RI w v l) (hl : l.length ≤ 1000000000) : Calls Try.prog 91 #[v] w (IntsOut w l) := by
  obtain ⟨A, n, c, rfl⟩ := h.val
  go_enter Try.func91, Try.ntmps91
  go_wp2_with (at_builtin; go_must (refine wp_copy_ints _ (.tmp 3) 27 Try.underlying27 rfl rfl h hl (Nat.le_refl _) rfl rfl ?_))
  intro v' w1 ho hg
  obtain ⟨A', n', c', rfl⟩ := ho.ri.val
  go_wp2_with fail
  go_ret
  exact ⟨_, rfl, ho, hg⟩
theorem addF_any (x y : Int) (w : World) (h0 : 0 ≤ x) (h1 : x ≤ 1008) (h2 : 0 ≤ y) (h3 : y ≤ 1008) : Calls Try.prog 134 #[.int .i64 x, .int .i64 y] w fun e w' => e = .returned (.int .i64 (addI x y)) ∧ w = w' := by
  go_enter Try.func134, Try.ntmps134
  go_wp2_with fail
  go_ret
  exact ⟨rfl, rfl⟩
theorem mulF_any (x y : Int) (w : World) (h0 : 0 ≤ x) (h1 : x ≤ 1008) (h2 : 0 ≤ y) (h3 : y ≤ 1008) : Calls Try.prog 135 #[.int .i64 x, .int .i64 y] w fun e w' => e = .returned (.int .i64 (mulI x y)) ∧ w = w' := by
  have e1 : IntKind.i64.wrap (x * y) = x * y := IntWalk.i64_in _ (by
    have := Int.mul_nonneg h0 h2
    have := Int.mul_le_mul h1 h3 h2 (by omega)
    omega)
  go_enter Try.func135, Try.ntmps135
  go_wp2_with fail
  go_ret
  exact ⟨by first | rfl | simp [mulI, e1], rfl⟩
theorem zipRow_snoc (f : Int → Int → Int) {a b : List Int} {k : Nat} {x y : Int} (hx : a[k]? = some x) (hy : b[k]? = some y) : zipRow f (a.take (k + 1)) (b.take (k + 1)) = zipRow f (a.take k) (b.take k) ++ [f x y % 1009] := by
  obtain ⟨h1, rfl⟩ := List.getElem?_eq_some_iff.1 hx
  obtain ⟨h2, rfl⟩ := List.getElem?_eq_some_iff.1 hy
  unfold zipRow
  rw [List.take_succ_eq_append_getElem h1, List.take_succ_eq_append_getElem h2, List.zipWith_append (by rw [List.length_take, List.length_take]; omega)]
  rfl
theorem zipRow_take_len (f : Int → Int → Int) {a b : List Int} {k : Nat} (h1 : k ≤ a.length) (h2 : k ≤ b.length) : (zipRow f (a.take k) (b.take k)).length = k := by
  unfold zipRow
  rw [List.length_zipWith, List.length_take, List.length_take]
  omega
def fOf (fid : Nat) : Int → Int → Int := if fid = 134 then addI else mulI
theorem fOf_bound (fid : Nat) {x y : Int} (h0 : 0 ≤ x) (h1 : x ≤ 1008) (h2 : 0 ≤ y) (h3 : y ≤ 1008) : 0 ≤ fOf fid x y ∧ fOf fid x y ≤ 1016064 := by
  unfold fOf
  split
  · unfold addI; omega
  · unfold mulI
    refine ⟨Int.mul_nonneg h0 h2, ?_⟩
    have := Int.mul_le_mul h1 h3 h2 (by omega)
    omega
theorem fOf_calls (fid : Nat) (hfid : fid = 134 ∨ fid = 135) (x y : Int) (w : World) (h0 : 0 ≤ x) (h1 : x ≤ 1008) (h2 : 0 ≤ y) (h3 : y ≤ 1008) :
    Calls Try.prog fid #[.int .i64 x, .int .i64 y] w fun e w' => e = .returned (.int .i64 (fOf fid x y)) ∧ w = w' := by
  rcases hfid with rfl | rfl
  · exact addF_any x y w h0 h1 h2 h3
  · exact mulF_any x y w h0 h1 h2 h3
set_option maxHeartbeats 800000 in
theorem join_any (va vb : Value) (a b : List Int) (fid : Nat) (hfid : fid = 134 ∨ fid = 135) (w : World) (ha : RI w va a) (hb : RI w vb b) :
    Calls Try.prog 133 #[va, vb, .func (.func fid) #[] #[]] w (RowOut w (rowBoth (fOf fid) a b)) := by
  obtain ⟨A, n, c, rfl, hc, hn⟩ := ha.form'
  obtain ⟨B, m, d, rfl, hd, hm⟩ := hb.form'
  have Hn := Lib.hid hn
  have Hm := Lib.hid hm
  have hle := ha.le
  have hle2 := hb.le
  rw [← hn] at hle
  rw [← hm] at hle2
  clear hn hm
  have bad : (rowValid a && rowValid b && decide (a.length = b.length)) = false → rowBoth (fOf fid) a b = none := by
    intro h
    unfold rowBoth
    rw [if_neg (by rw [h]; simp)]
  by_cases hva : rowValid a = true
  · by_cases hvb : rowValid b = true
    · by_cases hab : n = m
      · have Hva := Lib.hid hva
        have Hvb := Lib.hid hvb
        have hn6 : n ≤ 6 := by rw [Hn.out]; exact rowValid_len hva
        have Hr : Hid (rowBoth (fOf fid) a b = some (zipRow (fOf fid) a b)) := by
          show _ = _
          unfold rowBoth
          rw [hva, hvb, ← Hn.out, ← Hm.out, if_pos (by simp [hab])]
        subst hab
        obtain ⟨F, hF⟩ : ∃ F, F = fOf fid := ⟨_, rfl⟩
        have Hcall := Lib.hid (fun x y w => fOf_calls fid hfid x y w)
        have Hbd := Lib.hid (fun (x y : Int) => @fOf_bound fid x y)
        rw [← hF] at Hr Hcall Hbd ⊢
        clear bad hva hvb hF
        obtain ⟨i0, hi, hz0, hz1, hz2⟩ := info_parts info3
        rcases hfid with rfl | rfl
        all_goals
          go_enter Try.func133, Try.ntmps133
          go_wp2_with fail
          refine (rvValid_any _ a _ ha).mono ?_
          rw [Hva.out]
          rintro e w' ⟨rfl, rfl⟩
          go_wp2_with fail
          refine (rvValid_any _ b _ hb).mono ?_
          rw [Hvb.out]
          rintro e w' ⟨rfl, rfl⟩
          go_wp2_with (at_make; go_must (refine wpList_make_full _ rfl _ _ 133 rfl w.heap.size 3 i0 _ 1 Try.underlying133 hi hz0 hz1 _ _ _ _ n rfl rfl rfl rfl (by rw [hz2]; omega) (by unfold maxLen; omega) (Nat.le_refl _) ?_))
          intro w0 hown0 hg0
          have hO0 : OwnI w0 w.heap.size (.slice (some ⟨w.heap.size, 0, none⟩) n n) (List.replicate n 0) := by
            refine OwnI.made ?_
            have e : n * 1 = n := Nat.mul_one n
            first | exact hown0 | (rw [e] at hown0; exact hown0) | (simp at hown0; exact hown0)
          clear hown0
          go_wp2_with fail
          go_loopg [31] (n + 1) (fun mm i wr => ∃ k : Nat, k ≤ n ∧ mm = n + 1 - k ∧ i = .int .i64 k ∧ Hid (OwnI wr w.heap.size (.slice (some ⟨w.heap.size, 0, none⟩) n n) (zipRow F (a.take k) (b.take k) ++ List.replicate (n - k) 0)) ∧ w.grownBy wr none)
          case atStart => exact ⟨0, Nat.zero_le _, rfl, rfl, hO0, hg0⟩
          case round =>
            clear hO0 hg0
            obtain ⟨k, hk, rfl, rfl, HO, hg⟩ := hrel
            by_cases hlt : k < n
            · obtain ⟨ga, oa, x, rfl, hx, c0⟩ := (ha.new hg).at_ hlt
              obtain ⟨gb, ob, y, rfl, hy, c1⟩ := (hb.new hg).at_ hlt
              obtain ⟨hx0, hx1⟩ := rowValid_mem Hva.out (List.mem_of_getElem? hx)
              obtain ⟨hy0, hy1⟩ := rowValid_mem Hvb.out (List.mem_of_getElem? hy)
              have hzl := zipRow_take_len F (a := a) (b := b) (k := k) (by rw [← Hn.out]; omega) (by rw [← Hm.out]; omega)
              have hll : (zipRow F (a.take k) (b.take k) ++ List.replicate (n - k) (0 : Int)).length = n := by rw [List.length_append, hzl, List.length_replicate]; omega
              have hz : (zipRow F (a.take k) (b.take k) ++ List.replicate (n - k) (0 : Int))[k]? = some 0 := by
                rw [List.getElem?_append_right (by omega), hzl, List.getElem?_replicate, if_pos (by omega)]
              have hset : (zipRow F (a.take k) (b.take k) ++ List.replicate (n - k) (0 : Int)).set k (F x y % 1009) = zipRow F (a.take (k + 1)) (b.take (k + 1)) ++ List.replicate (n - (k + 1)) 0 := by
                rw [zipRow_snoc F hx hy, List.set_append_right _ _ (by omega), hzl, Nat.sub_self, show n - k = n - (k + 1) + 1 by omega, List.replicate_succ, List.set_cons_zero, List.append_assoc]
                rfl
              obtain ⟨c2, f2, -, -⟩ := HO.out.cell hz
              have hO2 := HO.out.set_ hll.symm k (F x y % 1009)
              rw [hset] at hO2
              have HO2 := Lib.hid hO2
              obtain ⟨hb0, hb1⟩ := Hbd.out x y hx0 hx1 hy0 hy1
              have hg2 : w.grownBy (wr.setCell ⟨w.heap.size, k, none⟩ (.int .i64 (F x y % 1009))) none := gb_set (p := ⟨w.heap.size, k, none⟩) hg (.inl (Nat.le_refl _)) _
              clear hx hy hzl hll hz hset hO2 HO
              go_wp2_with fail
              refine (Hcall.out x y _ hx0 hx1 hy0 hy1).mono ?_
              rintro e w' ⟨rfl, rfl⟩
              go_wp2_with fail
              go_roundg (n + 1 - (k + 1))
              case measure => omega
              case rel => exact ⟨k + 1, by omega, rfl, by go_num, HO2, hg2⟩
            · obtain rfl : k = n := by omega
              have hO2 : OwnI wr w.heap.size (.slice (some ⟨w.heap.size, 0, none⟩) k k) (zipRow F a b) := by
                have := HO.out
                rw [Nat.sub_self, List.replicate_zero, List.append_nil, List.take_of_length_le (by rw [← Hn.out]; exact Nat.le_refl _), List.take_of_length_le (by rw [← Hm.out]; exact Nat.le_refl _)] at this
                exact this
              clear HO
              go_wp2_with fail
              go_ret2
              exact ⟨_, by rw [Hr.out]; rfl, by rw [Hr.out]; exact hO2, hg⟩
      · have Hr := Lib.hid (bad (by rw [← Hn.out, ← Hm.out, decide_eq_false hab]; simp))
        have Hva := Lib.hid hva
        have Hvb := Lib.hid hvb
        have hb : ((n : Int) != (m : Int)) = true := by rw [bne_iff_ne]; omega
        clear bad hva hvb hab
        rcases hfid with rfl | rfl
        all_goals
          go_enter Try.func133, Try.ntmps133
          go_wp2_with fail
          refine (rvValid_any _ a _ ha).mono ?_
          rw [Hva.out]
          rintro e w' ⟨rfl, rfl⟩
          go_wp2_with fail
          refine (rvValid_any _ b _ (by assumption)).mono ?_
          rw [Hvb.out]
          rintro e w' ⟨rfl, rfl⟩
          go_wp2_with fail
          go_ret2
          exact ⟨_, by rw [Hr.out]; rfl, by rw [Hr.out]; exact OwnI.nil _ _, gb_refl _ _⟩
    · have hvb' : rowValid b = false := by simpa using hvb
      have Hr := Lib.hid (bad (by rw [hvb']; simp))
      have Hva := Lib.hid hva
      have Hvb := Lib.hid hvb'
      clear bad hva hvb hvb'
      rcases hfid with rfl | rfl
      all_goals
        go_enter Try.func133, Try.ntmps133
        go_wp2_with fail
        refine (rvValid_any _ a _ ha).mono ?_
        rw [Hva.out]
        rintro e w' ⟨rfl, rfl⟩
        go_wp2_with fail
        refine (rvValid_any _ b _ hb).mono ?_
        rw [Hvb.out]
        rintro e w' ⟨rfl, rfl⟩
        go_wp2_with fail
        go_ret2
        exact ⟨_, by rw [Hr.out]; rfl, by rw [Hr.out]; exact OwnI.nil _ _, gb_refl _ _⟩
  · have hva' : rowValid a = false := by simpa using hva
    have Hr := Lib.hid (bad (by rw [hva']; simp))
    have Hva := Lib.hid hva'
    clear bad hva hva'
    rcases hfid with rfl | rfl
    all_goals
      go_enter Try.func133, Try.ntmps133
      go_wp2_with fail
      refine (rvValid_any _ a _ ha).mono ?_
      rw [Hva.out]
      rintro e w' ⟨rfl, rfl⟩
      go_wp2_with fail
      go_ret2
      exact ⟨_, by rw [Hr.out]; rfl, by rw [Hr.out]; exact OwnI.nil _ _, gb_refl _ _⟩
theorem implRowAdd_any (va vb : Value) (a b : List Int) (w : World) (ha : RI w va a) (hb : RI w vb b) : Calls Try.prog 109 #[va, vb] w (RowOut w (rowAdd a b)) := by
  obtain ⟨A, n, c, rfl⟩ := ha.val
  obtain ⟨B, m, d, rfl⟩ := hb.val
  go_enter Try.func109, Try.ntmps109
  go_wp2_with fail
  refine (join_any _ _ a b _ (.inl rfl) _ ha hb).mono ?_
  rintro e w1 ⟨v, rfl, ho, hg⟩
  have hf : rowBoth (fOf 134) a b = rowAdd a b := rfl
  rw [hf] at ho ⊢
  obtain ⟨A', n', c', rfl⟩ := ho.ri.val
  clear hf
  go_wp2_with fail
  go_ret2
  exact ⟨_, rfl, ho, hg⟩
theorem implRowTimes_any (va vb : Value) (a b : List Int) (w : World) (ha : RI w va a) (hb : RI w vb b) : Calls Try.prog 110 #[va, vb] w (RowOut w (rowTimes a b)) := by
  obtain ⟨A, n, c, rfl⟩ := ha.val
  obtain ⟨B, m, d, rfl⟩ := hb.val
  go_enter Try.func110, Try.ntmps110
  go_wp2_with fail
  refine (join_any _ _ a b _ (.inr rfl) _ ha hb).mono ?_
  rintro e w1 ⟨v, rfl, ho, hg⟩
  have hf : rowBoth (fOf 135) a b = rowTimes a b := rfl
  rw [hf] at ho ⊢
  obtain ⟨A', n', c', rfl⟩ := ho.ri.val
  clear hf
  go_wp2_with fail
  go_ret2
  exact ⟨_, rfl, ho, hg⟩
end Go.Proofs.Ytjlnhijabdkagaa
