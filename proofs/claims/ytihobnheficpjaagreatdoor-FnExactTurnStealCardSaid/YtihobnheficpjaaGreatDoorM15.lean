/- Walks: the library's sort of few integers, and its turning in place. · Walks: impl's rows: copyInts, join, sums, turned, RowAdd, RowTimes, RowSums, RowTurn. · Walks: the library's sort of few integers; Reverse. · Walks: impl's rows: sums, sorted, turned, RowSums, RowSort, RowTurn. · Walks: the table's methods list, set, take. · Walks: spec.l13Order. -/
import Derived.Test.YtihobnheficpjaaGreatDoorM13
import Derived.Test.YtihobnheficpjaaGreatDoorM14
import Derived.Test.YtihobnheficpjaaGreatDoorM08
import Derived.IntWalk
import Derived.Laws.AppendOwnNone
import Derived.Test.YtihobnheficpjaaGreatDoorM12
import Derived.Laws.CopyOwn
import Derived.Test.YtihobnheficpjaaGreatDoorM07
import Derived.Test.YtihobnheficpjaaGreatDoorM11
namespace Go.Proofs.YtihobnheficpjaaGreatDoor
open Go.RowKit

theorem isNaN_any (x : Int) (w : World) : Calls Tryz.prog 185 #[.int .i64 x] w fun e w' => e = .returned (.bool false) ∧ w = w' := by
  go_enter Tryz.func185, Tryz.ntmps185
  go_wp2_with fail
  go_ret
  exact ⟨rfl, rfl⟩
theorem less_any (x y : Int) (w : World) : Calls Tryz.prog 160 #[.int .i64 x, .int .i64 y] w fun e w' => e = .returned (.bool (decide (x < y))) ∧ w = w' := by
  go_enter Tryz.func160, Tryz.ntmps160
  go_wp2_with fail
  refine (isNaN_any _ _).mono ?_
  rintro e w' ⟨rfl, rfl⟩
  go_wp2_with fail
  go_ret
  exact ⟨rfl, rfl⟩
theorem less_b (x y : Int) (w : World) {b : Bool} (hb : decide (x < y) = b) : Calls Tryz.prog 160 #[.int .i64 x, .int .i64 y] w fun e w' => e = .returned (.bool b) ∧ w = w' := hb ▸ less_any x y w
def SortOut (w : World) (base : Nat) (v : Value) (l : List Int) (e : Ending) (w' : World) : Prop := e = .returned (.tuple #[]) ∧ OwnI w' base v l ∧ w.grownBy w' v.ownBlock
set_option maxHeartbeats 1000000 in
set_option maxRecDepth 20000 in
theorem insertion_any (g n cap base : Nat) (l : List Int) (w : World) (h : OwnI w base (.slice (some ⟨g, 0, none⟩) n cap) l) (hn : n = l.length) (hl : n ≤ 12) (nz : Int) (hnz : nz = (n : Nat) := by omega) :
    Calls Tryz.prog 154 #[.slice (some ⟨g, 0, none⟩) n cap, .int .i64 0, .int .i64 nz] w (SortOut w base (.slice (some ⟨g, 0, none⟩) n cap) (sortRow l)) := by
  subst hnz
  have Hn := Lib.hid hn
  clear hn
  go_enter Tryz.func154, Tryz.ntmps154
  go_wp2_with fail
  go_loopg [6] (n + 1) (fun m i wr => ∃ k : Nat, 1 ≤ k ∧ k ≤ n + 1 ∧ m = n + 2 - k ∧ i = .int .i64 k ∧ Hid (OwnI wr base (.slice (some ⟨g, 0, none⟩) n cap) (sortTo l k)) ∧ w.grownBy wr (some g))
  case atStart => exact ⟨1, Nat.le_refl _, by omega, by omega, rfl, by show OwnI _ _ _ _; rw [sortTo_one]; exact h, gb_refl _ _⟩
  case round =>
    clear h
    obtain ⟨k, hk1, hk, rfl, rfl, HO, hg⟩ := hrel
    by_cases hlt : k < n
    · obtain ⟨x, hx⟩ : ∃ x, l[k]? = some x := ⟨_, List.getElem?_eq_getElem (by rw [← Hn.out]; exact hlt)⟩
      have HO2 := HO.out
      rw [insAt_begin hx] at HO2
      have HO2 := Lib.hid HO2
      have Hx := Lib.hid hx
      clear HO hx
      obtain ⟨wo, rfl⟩ : ∃ wo : World, wo = wr := ⟨_, rfl⟩
      go_wp2_with fail
      go_loopg [7] (k + 1) (fun m i wr => ∃ j : Nat, j ≤ k ∧ m = j + 1 ∧ i = .int .i64 j ∧ Hid (OwnI wr base (.slice (some ⟨g, 0, none⟩) n cap) (insAt l k j x)) ∧ Hid (∀ y ∈ (sortRow (l.take k)).drop j, x < y) ∧ w.grownBy wr (some g))
      case atStart => exact ⟨k, Nat.le_refl _, rfl, rfl, HO2, by
        intro y hy
        rw [List.drop_of_length_le (by rw [sortRow_len, List.length_take]; omega)] at hy
        simp at hy, hg⟩
      case round =>
        clear HO2 hg
        obtain ⟨j, hj, rfl, rfl, HO, Hgt, hg⟩ := hrel
        have hkl : k < l.length := by rw [← Hn.out]; exact hlt
        have hgetj := insAt_get (l := l) (i := k) (j := j) (x := x) hkl hj
        have hnl : n = (insAt l k j x).length := by rw [insAt_len hkl hj]; exact Hn.out
        by_cases hj0 : 0 < j
        · obtain ⟨y, hy1, hy2⟩ := insAt_prev (l := l) (i := k) (j := j) (x := x) hkl hj hj0
          obtain ⟨j', rfl⟩ : ∃ j', j = j' + 1 := ⟨j - 1, by omega⟩
          simp only [Nat.add_sub_cancel] at hy1 hy2
          obtain ⟨c0, f0, -, -⟩ := HO.out.cell hgetj
          obtain ⟨c1, f1, -, -⟩ := HO.out.cell hy1
          have e0 : IntKind.i64.wrap (((j' + 1 : Nat) : Int) - 1) = (j' : Nat) := by rw [show ((j' + 1 : Nat) : Int) - 1 = (j' : Nat) by omega]; exact IntWalk.i64_in _ (by omega)
          have hjn : j' + 1 < n := by omega
          by_cases hxy : x < y
          · have Hb := Lib.hid (decide_eq_true hxy)
            have Hgt2 : Hid (∀ z ∈ (sortRow (l.take k)).drop j', x < z) := drop_more (j := j' + 1) hj0 hy2 hxy Hgt.out
            have hO3 := ((HO.out.set_ hnl (j' + 1) y).set_ (by rw [List.length_set]; exact hnl) j' x)
            have hsw := insAt_swap (l := l) (i := k) (j := j' + 1) (x := x) hkl hj hj0 hy2
            simp only [Nat.add_sub_cancel] at hsw
            rw [hsw] at hO3
            have HO3 := Lib.hid hO3
            have hg3 : w.grownBy ((wr.setCell ⟨g, j' + 1, none⟩ (.int .i64 y)).setCell ⟨g, j', none⟩ (.int .i64 x)) (some g) := gb_set (p := ⟨g, j', none⟩) (gb_set (p := ⟨g, j' + 1, none⟩) hg (.inr rfl) _) (.inr rfl) _
            clear hO3 hsw hgetj hnl hy1 hy2 HO Hgt hg hkl
            go_wp2_with fail
            go_quiet ((go_at_call 160; exact quiet_l (less_b _ _ _ Hb.out)))
            go_wp2_with fail
            go_region
            all_goals
              go_wp2_with fail
              go_roundg (j' + 1)
              case measure => omega
              case rel => exact ⟨j', by omega, rfl, by go_num, HO3, Hgt2, gb_drew (gb_drewN hg3 _)⟩
          · have Hb := Lib.hid (decide_eq_false hxy)
            have he := insAt_end Hx.out hj (.inr ⟨y, hy2, hxy⟩) Hgt.out
            have HO3 := HO.out
            rw [he] at HO3
            have HO3 := Lib.hid HO3
            clear he hgetj hnl hy1 hy2 HO Hgt hkl hxy
            go_wp2_with fail
            go_quiet ((go_at_call 160; exact quiet_l (less_b _ _ _ Hb.out)))
            go_wp2_with fail
            go_roundg (n + 2 - (k + 1))
            case measure => omega
            case rel => exact ⟨k + 1, by omega, by omega, rfl, by go_num, HO3, gb_drewN hg _⟩
        · obtain rfl : j = 0 := by omega
          have he := insAt_end Hx.out hj (.inl rfl) Hgt.out
          have HO3 := HO.out
          rw [he] at HO3
          have HO3 := Lib.hid HO3
          clear he hgetj hnl HO Hgt hkl hj0
          go_wp2_with fail
          go_quiet (fail)
          go_wp2_with fail
          go_roundg (n + 2 - (k + 1))
          case measure => omega
          case rel => exact ⟨k + 1, by omega, by omega, rfl, by go_num, HO3, gb_drewN hg _⟩
    · have HO2 := HO.out
      rw [sortTo_all l (by rw [← Hn.out]; omega)] at HO2
      have HO2 := Lib.hid HO2
      clear HO
      go_wp2_with fail
      exact bodyPost_ret (results_none rfl _ _ _) rfl ⟨rfl, HO2.out, hg⟩
end Go.Proofs.YtihobnheficpjaaGreatDoor
namespace Go.Proofs.YtihobnheficpjaaGreatDoor
open Go.RowKit

def RowOut (w : World) (r : Option (List Int)) (e : Ending) (w' : World) : Prop := ∃ v, e = .returned (.tuple #[v, .bool r.isSome]) ∧ OwnI w' w.heap.size v (r.getD []) ∧ w.grownBy w' none
/-- 'append(T(nil), x...)': a copy. -/
theorem wp_copy_ints {ops : Array Oper} {rest : List Oper} {o : Oper} {a : Act} {Q : Exit → Act → World → Prop} {w : World}
    (s x : Operand) (t : TypeId) (ht : Tryz.prog.underlying t = some (.slice 3)) (hgd : o.guard = none) (ho : o.op = .call { callee := .builtin .append, args := #[s, x], argTypes := #[t, t] })
    {base : Nat} {xv : Value} {l : List Int} (hxv : RI w xv l) (hn : l.length ≤ 1000000000) (hbase : base ≤ w.heap.size)
    (hs : a.eval s = .slice none 0 0) (hx : a.eval x = xv)
    (h : ∀ v' w', OwnI w' base v' l → w.grownBy w' none → wpList Tryz.prog ops Q rest (a.put o.dst v') w') :
    wpList Tryz.prog ops Q (o :: rest) a w := by
  obtain ⟨i, hi, hz0, hz1, hz2⟩ := info_parts info3
  obtain ⟨A, c, e, hc, hcm, hcn⟩ := TS.form hxv
  subst e
  match A, hcn with
  | none, hcn =>
    obtain rfl := hcn rfl
    have hl0 : l = [] := List.eq_nil_of_length_eq_zero (by omega)
    subst hl0
    refine wpList_append_own_none hgd s x t ho base 3 i 1 ht hi (.slice none 0 0) 0 [] hs (World.ownsRow_nil _ _ _ _) hx ?_
    exact h _ _ (OwnI.nil _ _) (gb_refl _ _)
  | some ad, hcn =>
    refine wpList_append_own _ hgd s x t ho base 3 i _ 1 8 ht hi hz0 hz1 hz2 rfl (by decide) (.slice none 0 0) 0 [] hs (World.ownsRow_nil _ _ _ _) ad l.length c (l.map (.int .i64)) hx (by rw [List.length_map, Nat.mul_one]) ?_ (ints_one l) ?_ ?_ hbase ?_
    · intro j u hj
      have hjl := (List.getElem?_eq_some_iff.1 hj).1
      rw [List.length_map] at hjl
      obtain ⟨g, o', cur, e, _, hcell⟩ := TS.at_ hxv (by omega)
      have e2 : ad = ⟨g, o', none⟩ := Option.some.inj e
      rw [e2, Addr.add_lit]
      exact hcell j u hj
    · unfold maxLen; omega
    · omega
    · intro v' w' h1 h2 _
      refine h v' w' ?_ h2
      unfold OwnI
      simpa using h1
theorem copyInts_any (v : Value) (l : List Int) (w : World) (h : RI w v l) (hl : l.length ≤ 1000000000) : Calls Tryz.prog 86 #[v] w (IntsOut w l) := by
  obtain ⟨A, n, c, rfl⟩ := h.val
  go_enter Tryz.func86, Tryz.ntmps86
  go_wp2_with (at_builtin; go_must (refine wp_copy_ints _ (.tmp 3) 25 Tryz.underlying25 rfl rfl h hl (Nat.le_refl _) rfl rfl ?_))
  intro v' w1 ho hg
  obtain ⟨A', n', c', rfl⟩ := ho.ri.val
  go_wp2_with fail
  go_ret
  exact ⟨_, rfl, ho, hg⟩
theorem addF_any (x y : Int) (w : World) (h0 : 0 ≤ x) (h1 : x ≤ 1008) (h2 : 0 ≤ y) (h3 : y ≤ 1008) : Calls Tryz.prog 171 #[.int .i64 x, .int .i64 y] w fun e w' => e = .returned (.int .i64 (addI x y)) ∧ w = w' := by
  go_enter Tryz.func171, Tryz.ntmps171
  go_wp2_with fail
  go_ret
  exact ⟨rfl, rfl⟩
theorem mulF_any (x y : Int) (w : World) (h0 : 0 ≤ x) (h1 : x ≤ 1008) (h2 : 0 ≤ y) (h3 : y ≤ 1008) : Calls Tryz.prog 172 #[.int .i64 x, .int .i64 y] w fun e w' => e = .returned (.int .i64 (mulI x y)) ∧ w = w' := by
  have e1 : IntKind.i64.wrap (x * y) = x * y := IntWalk.i64_in _ (by
    have := Int.mul_nonneg h0 h2
    have := Int.mul_le_mul h1 h3 h2 (by omega)
    omega)
  go_enter Tryz.func172, Tryz.ntmps172
  go_wp2_with fail
  go_ret
  exact ⟨by first | rfl | simp [mulI, e1], rfl⟩
theorem zipRow_snoc (f : Int → Int → Int) {a b : List Int} {k : Nat} {x y : Int} (hx : a[k]? = some x) (hy : b[k]? = some y) : zipRow f (a.take (k + 1)) (b.take (k + 1)) = zipRow f (a.take k) (b.take k) ++ [f x y % 1009] := by
  obtain ⟨h1, rfl⟩ := List.getElem?_eq_some_iff.1 hx
  obtain ⟨h2, rfl⟩ := List.getElem?_eq_some_iff.1 hy
  unfold zipRow
  rw [List.take_succ_eq_append_getElem h1, List.take_succ_eq_append_getElem h2, List.zipWith_append (by rw [List.length_take, List.length_take]; omega)]
  rfl
theorem zipRow_take_len (f : Int → Int → Int) {a b : List Int} {k : Nat} (h1 : k ≤ a.length) (h2 : k ≤ b.length) : (zipRow f (a.take k) (b.take k)).length = k := by
  unfold zipRow
  rw [List.length_zipWith, List.length_take, List.length_take]
  omega
def fOf (fid : Nat) : Int → Int → Int := if fid = 171 then addI else mulI
theorem fOf_bound (fid : Nat) {x y : Int} (h0 : 0 ≤ x) (h1 : x ≤ 1008) (h2 : 0 ≤ y) (h3 : y ≤ 1008) : 0 ≤ fOf fid x y ∧ fOf fid x y ≤ 1016064 := by
  unfold fOf
  split
  · unfold addI; omega
  · unfold mulI
    refine ⟨Int.mul_nonneg h0 h2, ?_⟩
    have := Int.mul_le_mul h1 h3 h2 (by omega)
    omega
theorem fOf_calls (fid : Nat) (hfid : fid = 171 ∨ fid = 172) (x y : Int) (w : World) (h0 : 0 ≤ x) (h1 : x ≤ 1008) (h2 : 0 ≤ y) (h3 : y ≤ 1008) :
    Calls Tryz.prog fid #[.int .i64 x, .int .i64 y] w fun e w' => e = .returned (.int .i64 (fOf fid x y)) ∧ w = w' := by
  rcases hfid with rfl | rfl
  · exact addF_any x y w h0 h1 h2 h3
  · exact mulF_any x y w h0 h1 h2 h3
set_option maxHeartbeats 800000 in
theorem join_any (va vb : Value) (a b : List Int) (fid : Nat) (hfid : fid = 171 ∨ fid = 172) (w : World) (ha : RI w va a) (hb : RI w vb b) :
    Calls Tryz.prog 170 #[va, vb, .func (.func fid) #[] #[]] w (RowOut w (rowBoth (fOf fid) a b)) := by
  obtain ⟨A, n, c, rfl, hc, hn⟩ := ha.form'
  obtain ⟨B, m, d, rfl, hd, hm⟩ := hb.form'
  have Hn := Lib.hid hn
  have Hm := Lib.hid hm
  have hle := ha.le
  have hle2 := hb.le
  rw [← hn] at hle
  rw [← hm] at hle2
  clear hn hm
  have bad : (rowValid a && rowValid b && decide (a.length = b.length)) = false → rowBoth (fOf fid) a b = none := by
    intro h
    unfold rowBoth
    rw [if_neg (by rw [h]; simp)]
  by_cases hva : rowValid a = true
  · by_cases hvb : rowValid b = true
    · by_cases hab : n = m
      · have Hva := Lib.hid hva
        have Hvb := Lib.hid hvb
        have hn6 : n ≤ 6 := by rw [Hn.out]; exact rowValid_len hva
        have Hr : Hid (rowBoth (fOf fid) a b = some (zipRow (fOf fid) a b)) := by
          show _ = _
          unfold rowBoth
          rw [hva, hvb, ← Hn.out, ← Hm.out, if_pos (by simp [hab])]
        subst hab
        obtain ⟨F, hF⟩ : ∃ F, F = fOf fid := ⟨_, rfl⟩
        have Hcall := Lib.hid (fun x y w => fOf_calls fid hfid x y w)
        have Hbd := Lib.hid (fun (x y : Int) => @fOf_bound fid x y)
        rw [← hF] at Hr Hcall Hbd ⊢
        clear bad hva hvb hF
        obtain ⟨i0, hi, hz0, hz1, hz2⟩ := info_parts info3
        rcases hfid with rfl | rfl
        all_goals
          go_enter Tryz.func170, Tryz.ntmps170
          go_wp2_with fail
          refine (rvValid_any _ a _ ha).mono ?_
          rw [Hva.out]
          rintro e w' ⟨rfl, rfl⟩
          go_wp2_with fail
          refine (rvValid_any _ b _ hb).mono ?_
          rw [Hvb.out]
          rintro e w' ⟨rfl, rfl⟩
          go_wp2_with (at_make; go_must (refine wpList_make_full _ rfl _ _ 190 rfl w.heap.size 3 i0 _ 1 Tryz.underlying190 hi hz0 hz1 _ _ _ _ n rfl rfl rfl rfl (by rw [hz2]; omega) (by unfold maxLen; omega) (Nat.le_refl _) ?_))
          intro w0 hown0 hg0
          have hO0 : OwnI w0 w.heap.size (.slice (some ⟨w.heap.size, 0, none⟩) n n) (List.replicate n 0) := by
            refine OwnI.made ?_
            have e : n * 1 = n := Nat.mul_one n
            first | exact hown0 | (rw [e] at hown0; exact hown0) | (simp at hown0; exact hown0)
          clear hown0
          go_wp2_with fail
          go_loopg [31] (n + 1) (fun mm i wr => ∃ k : Nat, k ≤ n ∧ mm = n + 1 - k ∧ i = .int .i64 k ∧ Hid (OwnI wr w.heap.size (.slice (some ⟨w.heap.size, 0, none⟩) n n) (zipRow F (a.take k) (b.take k) ++ List.replicate (n - k) 0)) ∧ w.grownBy wr none)
          case atStart => exact ⟨0, Nat.zero_le _, rfl, rfl, hO0, hg0⟩
          case round =>
            clear hO0 hg0
            obtain ⟨k, hk, rfl, rfl, HO, hg⟩ := hrel
            by_cases hlt : k < n
            · obtain ⟨ga, oa, x, rfl, hx, c0⟩ := (ha.new hg).at_ hlt
              obtain ⟨gb, ob, y, rfl, hy, c1⟩ := (hb.new hg).at_ hlt
              obtain ⟨hx0, hx1⟩ := rowValid_mem Hva.out (List.mem_of_getElem? hx)
              obtain ⟨hy0, hy1⟩ := rowValid_mem Hvb.out (List.mem_of_getElem? hy)
              have hzl := zipRow_take_len F (a := a) (b := b) (k := k) (by rw [← Hn.out]; omega) (by rw [← Hm.out]; omega)
              have hll : (zipRow F (a.take k) (b.take k) ++ List.replicate (n - k) (0 : Int)).length = n := by rw [List.length_append, hzl, List.length_replicate]; omega
              have hz : (zipRow F (a.take k) (b.take k) ++ List.replicate (n - k) (0 : Int))[k]? = some 0 := by
                rw [List.getElem?_append_right (by omega), hzl, List.getElem?_replicate, if_pos (by omega)]
              have hset : (zipRow F (a.take k) (b.take k) ++ List.replicate (n - k) (0 : Int)).set k (F x y % 1009) = zipRow F (a.take (k + 1)) (b.take (k + 1)) ++ List.replicate (n - (k + 1)) 0 := by
                rw [zipRow_snoc F hx hy, List.set_append_right _ _ (by omega), hzl, Nat.sub_self, show n - k = n - (k + 1) + 1 by omega, List.replicate_succ, List.set_cons_zero, List.append_assoc]
                rfl
              obtain ⟨c2, f2, -, -⟩ := HO.out.cell hz
              have hO2 := HO.out.set_ hll.symm k (F x y % 1009)
              rw [hset] at hO2
              have HO2 := Lib.hid hO2
              obtain ⟨hb0, hb1⟩ := Hbd.out x y hx0 hx1 hy0 hy1
              have hg2 : w.grownBy (wr.setCell ⟨w.heap.size, k, none⟩ (.int .i64 (F x y % 1009))) none := gb_set (p := ⟨w.heap.size, k, none⟩) hg (.inl (Nat.le_refl _)) _
              clear hx hy hzl hll hz hset hO2 HO
              go_wp2_with fail
              refine (Hcall.out x y _ hx0 hx1 hy0 hy1).mono ?_
              rintro e w' ⟨rfl, rfl⟩
              go_wp2_with fail
              go_roundg (n + 1 - (k + 1))
              case measure => omega
              case rel => exact ⟨k + 1, by omega, rfl, by go_num, HO2, hg2⟩
            · obtain rfl : k = n := by omega
              have hO2 : OwnI wr w.heap.size (.slice (some ⟨w.heap.size, 0, none⟩) k k) (zipRow F a b) := by
                have := HO.out
                rw [Nat.sub_self, List.replicate_zero, List.append_nil, List.take_of_length_le (by rw [← Hn.out]; exact Nat.le_refl _), List.take_of_length_le (by rw [← Hm.out]; exact Nat.le_refl _)] at this
                exact this
              clear HO
              go_wp2_with fail
              go_ret2
              exact ⟨_, by rw [Hr.out]; rfl, by rw [Hr.out]; exact hO2, hg⟩
      · have Hr := Lib.hid (bad (by rw [← Hn.out, ← Hm.out, decide_eq_false hab]; simp))
        have Hva := Lib.hid hva
        have Hvb := Lib.hid hvb
        have hb : ((n : Int) != (m : Int)) = true := by rw [bne_iff_ne]; omega
        clear bad hva hvb hab
        rcases hfid with rfl | rfl
        all_goals
          go_enter Tryz.func170, Tryz.ntmps170
          go_wp2_with fail
          refine (rvValid_any _ a _ ha).mono ?_
          rw [Hva.out]
          rintro e w' ⟨rfl, rfl⟩
          go_wp2_with fail
          refine (rvValid_any _ b _ (by assumption)).mono ?_
          rw [Hvb.out]
          rintro e w' ⟨rfl, rfl⟩
          go_wp2_with fail
          go_ret2
          exact ⟨_, by rw [Hr.out]; rfl, by rw [Hr.out]; exact OwnI.nil _ _, gb_refl _ _⟩
    · have hvb' : rowValid b = false := by simpa using hvb
      have Hr := Lib.hid (bad (by rw [hvb']; simp))
      have Hva := Lib.hid hva
      have Hvb := Lib.hid hvb'
      clear bad hva hvb hvb'
      rcases hfid with rfl | rfl
      all_goals
        go_enter Tryz.func170, Tryz.ntmps170
        go_wp2_with fail
        refine (rvValid_any _ a _ ha).mono ?_
        rw [Hva.out]
        rintro e w' ⟨rfl, rfl⟩
        go_wp2_with fail
        refine (rvValid_any _ b _ hb).mono ?_
        rw [Hvb.out]
        rintro e w' ⟨rfl, rfl⟩
        go_wp2_with fail
        go_ret2
        exact ⟨_, by rw [Hr.out]; rfl, by rw [Hr.out]; exact OwnI.nil _ _, gb_refl _ _⟩
  · have hva' : rowValid a = false := by simpa using hva
    have Hr := Lib.hid (bad (by rw [hva']; simp))
    have Hva := Lib.hid hva'
    clear bad hva hva'
    rcases hfid with rfl | rfl
    all_goals
      go_enter Tryz.func170, Tryz.ntmps170
      go_wp2_with fail
      refine (rvValid_any _ a _ ha).mono ?_
      rw [Hva.out]
      rintro e w' ⟨rfl, rfl⟩
      go_wp2_with fail
      go_ret2
      exact ⟨_, by rw [Hr.out]; rfl, by rw [Hr.out]; exact OwnI.nil _ _, gb_refl _ _⟩
theorem implRowAdd_any (va vb : Value) (a b : List Int) (w : World) (ha : RI w va a) (hb : RI w vb b) : Calls Tryz.prog 138 #[va, vb] w (RowOut w (rowAdd a b)) := by
  obtain ⟨A, n, c, rfl⟩ := ha.val
  obtain ⟨B, m, d, rfl⟩ := hb.val
  go_enter Tryz.func138, Tryz.ntmps138
  go_wp2_with fail
  refine (join_any _ _ a b _ (.inl rfl) _ ha hb).mono ?_
  rintro e w1 ⟨v, rfl, ho, hg⟩
  have hf : rowBoth (fOf 171) a b = rowAdd a b := rfl
  rw [hf] at ho ⊢
  obtain ⟨A', n', c', rfl⟩ := ho.ri.val
  clear hf
  go_wp2_with fail
  go_ret2
  exact ⟨_, rfl, ho, hg⟩
theorem implRowTimes_any (va vb : Value) (a b : List Int) (w : World) (ha : RI w va a) (hb : RI w vb b) : Calls Tryz.prog 139 #[va, vb] w (RowOut w (rowTimes a b)) := by
  obtain ⟨A, n, c, rfl⟩ := ha.val
  obtain ⟨B, m, d, rfl⟩ := hb.val
  go_enter Tryz.func139, Tryz.ntmps139
  go_wp2_with fail
  refine (join_any _ _ a b _ (.inr rfl) _ ha hb).mono ?_
  rintro e w1 ⟨v, rfl, ho, hg⟩
  have hf : rowBoth (fOf 172) a b = rowTimes a b := rfl
  rw [hf] at ho ⊢
  obtain ⟨A', n', c', rfl⟩ := ho.ri.val
  clear hf
  go_wp2_with fail
  go_ret2
  exact ⟨_, rfl, ho, hg⟩
end Go.Proofs.YtihobnheficpjaaGreatDoor
namespace Go.Proofs.YtihobnheficpjaaGreatDoor
open Go.RowKit

set_option maxRecDepth 100000 in
set_option maxHeartbeats 1000000 in
theorem pdq_any (g n cap base : Nat) (l : List Int) (w : World) (h : OwnI w base (.slice (some ⟨g, 0, none⟩) n cap) l) (hn : n = l.length) (hl : n ≤ 12) (lim : Int) :
    Calls Tryz.prog 132 #[.slice (some ⟨g, 0, none⟩) n cap, .int .i64 0, .int .i64 n, .int .i64 lim] w (SortOut w base (.slice (some ⟨g, 0, none⟩) n cap) (sortRow l)) := by
  have Hn := Lib.hid hn
  clear hn
  go_enter Tryz.func132, Tryz.ntmps132
  go_wp2_with fail
  refine wp_loop_rounds 1 ?_
  rw [rounds_succ]
  go_wp2_with fail
  refine (insertion_any g n cap base l _ h Hn.out hl _).mono ?_
  rintro e w1 ⟨rfl, ho, hg⟩
  go_wp2_with fail
  exact bodyPost_ret (results_none rfl _ _ _) rfl ⟨rfl, ho, hg⟩
/-- 'bits.Len' of a small number is some number. -/
def SomeNum (w : World) (e : Ending) (w' : World) : Prop := (∃ z : Int, e = .returned (.int .i64 z)) ∧ w = w'
set_option maxRecDepth 100000 in
theorem len64_any (n : Nat) (hn : n ≤ 12) (w : World) : Calls Tryz.prog 164 #[.int .u64 n] w (SomeNum w) := by
  rcases (show n = 0 ∨ n = 1 ∨ n = 2 ∨ n = 3 ∨ n = 4 ∨ n = 5 ∨ n = 6 ∨ n = 7 ∨ n = 8 ∨ n = 9 ∨ n = 10 ∨ n = 11 ∨ n = 12 by omega) with rfl | rfl | rfl | rfl | rfl | rfl | rfl | rfl | rfl | rfl | rfl | rfl | rfl
  all_goals
    go_enter Tryz.func164, Tryz.ntmps164
    go_wp2_with fail
    go_ret
    exact ⟨⟨_, rfl⟩, rfl⟩
theorem bitsLen_any (n : Nat) (hn : n ≤ 12) (w : World) : Calls Tryz.prog 133 #[.int .u64 n] w (SomeNum w) := by
  go_enter Tryz.func133, Tryz.ntmps133
  go_wp2_with fail
  refine (len64_any n hn _).mono ?_
  rintro e w' ⟨⟨z, rfl⟩, rfl⟩
  go_wp2_with fail
  go_ret
  exact ⟨⟨z, rfl⟩, rfl⟩
theorem sortRows_any (g n cap base : Nat) (l : List Int) (w : World) (h : OwnI w base (.slice (some ⟨g, 0, none⟩) n cap) l) (hn : n = l.length) (hl : n ≤ 12) :
    Calls Tryz.prog 186 #[.slice (some ⟨g, 0, none⟩) n cap] w (SortOut w base (.slice (some ⟨g, 0, none⟩) n cap) (sortRow l)) := by
  have Hn := Lib.hid hn
  clear hn
  go_enter Tryz.func186, Tryz.ntmps186
  go_wp2_with fail
  refine (bitsLen_any n hl _).mono ?_
  rintro e w' ⟨⟨z, rfl⟩, rfl⟩
  go_wp2_with fail
  refine (pdq_any g n cap base l _ h Hn.out hl z).mono ?_
  rintro e w1 ⟨rfl, ho, hg⟩
  go_wp2_with fail
  exact bodyPost_ret (results_none rfl _ _ _) rfl ⟨rfl, ho, hg⟩
set_option maxHeartbeats 800000 in
theorem reverse_any (g n cap base : Nat) (l : List Int) (w : World) (h : OwnI w base (.slice (some ⟨g, 0, none⟩) n cap) l) (hn : n = l.length) (hl : n ≤ 1000) :
    Calls Tryz.prog 187 #[.slice (some ⟨g, 0, none⟩) n cap] w (SortOut w base (.slice (some ⟨g, 0, none⟩) n cap) l.reverse) := by
  have Hn := Lib.hid hn
  clear hn
  go_enter Tryz.func187, Tryz.ntmps187
  go_wp2_with fail
  go_loopg [2, 3] (n + 1) (fun mm i j wr => ∃ (k : Nat) (m : List Int), k ≤ n ∧ mm = n + 1 - k ∧ i = .int .i64 k ∧ j = .int .i64 ((n : Int) - 1 - k) ∧ Hid (RevTo l m k) ∧ Hid (OwnI wr base (.slice (some ⟨g, 0, none⟩) n cap) m) ∧ w.grownBy wr (some g))
  case atStart => exact ⟨0, l, Nat.zero_le _, rfl, rfl, by go_num, RevTo.zero l, h, gb_refl _ _⟩
  case round =>
    clear h
    obtain ⟨k, m, hk, rfl, rfl, rfl, HR, HO, hg⟩ := hrel
    have hml : n = m.length := by rw [HR.out.1]; exact Hn.out
    by_cases hlt : (k : Int) < (n : Int) - 1 - k
    · obtain ⟨q, hq⟩ : ∃ q : Nat, q = n - 1 - k := ⟨_, rfl⟩
      have hqi : ((n : Int) - 1 - k) = (q : Int) := by omega
      rw [hqi] at hlt ⊢
      obtain ⟨x, hx⟩ : ∃ x, m[k]? = some x := ⟨_, List.getElem?_eq_getElem (by omega)⟩
      obtain ⟨y, hy⟩ : ∃ y, m[q]? = some y := ⟨_, List.getElem?_eq_getElem (by omega)⟩
      obtain ⟨c0, f0, -, -⟩ := HO.out.cell hx
      obtain ⟨c1, f1, -, -⟩ := HO.out.cell hy
      have hR2 := HR.out.step (by rw [← Hn.out]; omega) hx (by rw [← Hn.out, ← hq]; exact hy)
      rw [← Hn.out, ← hq] at hR2
      have HR2 := Lib.hid hR2
      have HO3 := Lib.hid ((HO.out.set_ hml k y).set_ (by rw [List.length_set]; exact hml) q x)
      have hg3 : w.grownBy ((wr.setCell ⟨g, k, none⟩ (.int .i64 y)).setCell ⟨g, q, none⟩ (.int .i64 x)) (some g) := gb_set (p := ⟨g, q, none⟩) (gb_set (p := ⟨g, k, none⟩) hg (.inr rfl) _) (.inr rfl) _
      have hkq : k < q := by omega
      have hqn : q < n := by omega
      have Hq := Lib.hid hqi
      clear hR2 hq hqi hx hy hml HR HO hg
      go_wp2_with fail
      go_region
      all_goals
        go_wp2_with fail
        go_roundg (n + 1 - (k + 1))
        case measure => omega
        case rel => exact ⟨k + 1, _, by omega, rfl, by go_num, by rw [← Hq.out]; go_num, HR2, HO3, gb_drew hg3⟩
    · have he := HR.out.done (by rw [← Hn.out]; omega)
      have HO2 := HO.out
      rw [he] at HO2
      have HO2 := Lib.hid HO2
      clear he hml HO HR
      go_wp2_with fail
      exact bodyPost_ret (results_none rfl _ _ _) rfl ⟨rfl, HO2.out, hg⟩
end Go.Proofs.YtihobnheficpjaaGreatDoor
namespace Go.Proofs.YtihobnheficpjaaGreatDoor
open Go.RowKit

theorem sumsFrom_append (s : Int) (l : List Int) (x : Int) : sumsFrom s (l ++ [x]) = sumsFrom s l ++ [((sumsFrom s l).getLast?.getD s + x) % 1009] := by
  induction l generalizing s with
  | nil => rfl
  | cons y ys ih =>
    rw [List.cons_append, sumsFrom, ih, sumsFrom]
    cases h : sumsFrom ((s + y) % 1009) ys with
    | nil => simp
    | cons z zs =>
      have hq : ∃ q, (z :: zs).getLast? = some q := ⟨_, List.getLast?_eq_some_getLast (by simp)⟩
      obtain ⟨q, hq⟩ := hq
      rw [hq, List.getLast?_cons_cons, hq]
      rfl
theorem sums_any (v : Value) (l : List Int) (w : World) (h : RI w v l) (hv : rowValid l = true) : Calls Tryz.prog 174 #[v] w (IntsOut w (sumsFrom 0 l)) := by
  obtain ⟨A, n, c, rfl, hc, hn⟩ := h.form'
  have hn6 : n ≤ 6 := by rw [hn]; exact rowValid_len hv
  have Hn := Lib.hid hn
  have Hv := Lib.hid hv
  clear hn hv
  obtain ⟨i0, hi, hz0, hz1, hz2⟩ := info_parts info3
  go_enter Tryz.func174, Tryz.ntmps174
  go_wp2_with (at_make; go_must (refine wpList_make_full _ rfl _ _ 190 rfl w.heap.size 3 i0 _ 1 Tryz.underlying190 hi hz0 hz1 _ _ _ _ n rfl rfl rfl rfl (by rw [hz2]; omega) (by unfold maxLen; omega) (Nat.le_refl _) ?_))
  intro w0 hown0 hg0
  have hO0 : OwnI w0 w.heap.size (.slice (some ⟨w.heap.size, 0, none⟩) n n) (List.replicate n 0) := by
    refine OwnI.made ?_
    have e : n * 1 = n := Nat.mul_one n
    first | exact hown0 | (rw [e] at hown0; exact hown0) | (simp at hown0; exact hown0)
  clear hown0
  go_wp2_with fail
  go_loopg [4, 12] (n + 1) (fun mm s i wr => ∃ (k : Nat) (z : Int), k ≤ n ∧ mm = n + 1 - k ∧ i = .int .i64 k ∧ s = .int .i64 z ∧ 0 ≤ z ∧ z ≤ 1008 ∧ Hid (z = (sumsFrom 0 (l.take k)).getLast?.getD 0) ∧ Hid (OwnI wr w.heap.size (.slice (some ⟨w.heap.size, 0, none⟩) n n) (sumsFrom 0 (l.take k) ++ List.replicate (n - k) 0)) ∧ w.grownBy wr none)
  case atStart => exact ⟨0, 0, Nat.zero_le _, rfl, rfl, rfl, by omega, by omega, rfl, hO0, hg0⟩
  case round =>
    clear hO0 hg0
    obtain ⟨k, z, hk, rfl, rfl, rfl, hz0', hz1', Hz, HO, hg⟩ := hrel
    by_cases hlt : k < n
    · obtain ⟨ga, oa, x, rfl, hx, c0⟩ := (h.new hg).at_ hlt
      obtain ⟨hx0, hx1⟩ := rowValid_mem Hv.out (List.mem_of_getElem? hx)
      obtain ⟨hk', hx'⟩ := List.getElem?_eq_some_iff.1 hx
      have hsl : (sumsFrom 0 (l.take k)).length = k := by rw [sumsFrom_len, List.length_take]; omega
      have hsn : sumsFrom 0 (l.take (k + 1)) = sumsFrom 0 (l.take k) ++ [(z + x) % 1009] := by
        rw [List.take_succ_eq_append_getElem hk', hx', sumsFrom_append, ← Hz.out]
      have hll : (sumsFrom 0 (l.take k) ++ List.replicate (n - k) (0 : Int)).length = n := by rw [List.length_append, hsl, List.length_replicate]; omega
      have hz : (sumsFrom 0 (l.take k) ++ List.replicate (n - k) (0 : Int))[k]? = some 0 := by
        rw [List.getElem?_append_right (by omega), hsl, List.getElem?_replicate, if_pos (by omega)]
      have hset : (sumsFrom 0 (l.take k) ++ List.replicate (n - k) (0 : Int)).set k ((z + x) % 1009) = sumsFrom 0 (l.take (k + 1)) ++ List.replicate (n - (k + 1)) 0 := by
        rw [hsn, List.set_append_right _ _ (by omega), hsl, Nat.sub_self, show n - k = n - (k + 1) + 1 by omega, List.replicate_succ, List.set_cons_zero, List.append_assoc]
        rfl
      have Hz2 : Hid ((z + x) % 1009 = (sumsFrom 0 (l.take (k + 1))).getLast?.getD 0) := by
        show _ = _
        rw [hsn, List.getLast?_append]
        simp
      obtain ⟨c2, f2, -, -⟩ := HO.out.cell hz
      have hO2 := HO.out.set_ hll.symm k ((z + x) % 1009)
      rw [hset] at hO2
      have HO2 := Lib.hid hO2
      have hg2 : w.grownBy (wr.setCell ⟨w.heap.size, k, none⟩ (.int .i64 ((z + x) % 1009))) none := gb_set (p := ⟨w.heap.size, k, none⟩) hg (.inl (Nat.le_refl _)) _
      clear hx hk' hx' hsl hsn hll hz hset hO2 HO Hz
      go_wp2_with fail
      go_roundg (n + 1 - (k + 1))
      case measure => omega
      case rel => exact ⟨k + 1, _, by omega, rfl, by go_num, rfl, by omega, by omega, Hz2, HO2, hg2⟩
    · obtain rfl : k = n := by omega
      have hO2 : OwnI wr w.heap.size (.slice (some ⟨w.heap.size, 0, none⟩) k k) (sumsFrom 0 l) := by
        have := HO.out
        rw [Nat.sub_self, List.replicate_zero, List.append_nil, List.take_of_length_le (by rw [← Hn.out]; exact Nat.le_refl _)] at this
        exact this
      clear HO Hz
      go_wp2_with fail
      go_ret
      exact ⟨_, rfl, hO2, hg⟩
/-- Nothing to sort. -/
def NilOut (w : World) (e : Ending) (w' : World) : Prop := e = .returned (.tuple #[]) ∧ w = w'
theorem insertion0_any (w : World) : Calls Tryz.prog 154 #[.slice none 0 0, .int .i64 0, .int .i64 0] w (NilOut w) := by
  go_enter Tryz.func154, Tryz.ntmps154
  go_wp2_with fail
  refine wp_loop_rounds 1 ?_
  rw [rounds_succ]
  go_wp2_with fail
  exact bodyPost_ret (results_none rfl _ _ _) rfl ⟨rfl, rfl⟩
set_option maxRecDepth 100000 in
theorem pdq0_any (lim : Int) (w : World) : Calls Tryz.prog 132 #[.slice none 0 0, .int .i64 0, .int .i64 0, .int .i64 lim] w (NilOut w) := by
  go_enter Tryz.func132, Tryz.ntmps132
  go_wp2_with fail
  refine wp_loop_rounds 1 ?_
  rw [rounds_succ]
  go_wp2_with fail
  refine (insertion0_any _).mono ?_
  rintro e w1 ⟨rfl, rfl⟩
  go_wp2_with fail
  exact bodyPost_ret (results_none rfl _ _ _) rfl ⟨rfl, rfl⟩
theorem sortRows0_any (w : World) : Calls Tryz.prog 186 #[.slice none 0 0] w (NilOut w) := by
  go_enter Tryz.func186, Tryz.ntmps186
  go_wp2_with fail
  refine (bitsLen_any 0 (by omega) _).mono ?_
  rintro e w' ⟨⟨z, rfl⟩, rfl⟩
  go_wp2_with fail
  refine (pdq0_any z _).mono ?_
  rintro e w1 ⟨rfl, rfl⟩
  go_wp2_with fail
  exact bodyPost_ret (results_none rfl _ _ _) rfl ⟨rfl, rfl⟩
theorem sorted_any (v : Value) (l : List Int) (w : World) (h : RI w v l) (hl : l.length ≤ 12) : Calls Tryz.prog 175 #[v] w (IntsOut w (sortRow l)) := by
  obtain ⟨A, n, c, rfl⟩ := h.val
  go_enter Tryz.func175, Tryz.ntmps175
  go_wp2_with (at_builtin; go_must (refine wp_copy_ints _ (.tmp 4) 190 Tryz.underlying190 rfl rfl h (by omega) (Nat.le_refl _) rfl rfl ?_))
  intro v' w1 ho hg
  rcases ho.2 with ⟨rfl, h0⟩ | ⟨g, cap, cur, rfl, -⟩
  · obtain rfl : l = [] := List.eq_nil_of_length_eq_zero h0
    clear h0 hl
    go_wp2_with fail
    refine (sortRows0_any _).mono ?_
    rintro e w2 ⟨rfl, rfl⟩
    go_wp2_with fail
    go_ret
    exact ⟨_, rfl, ho, hg⟩
  · obtain ⟨m, hm⟩ : ∃ m, m = l.length := ⟨_, rfl⟩
    rw [← hm] at ho hl ⊢
    have Hm := Lib.hid hm
    clear hm
    go_wp2_with fail
    refine (sortRows_any g m cap _ l _ ho Hm.out hl).mono ?_
    rintro e w2 ⟨rfl, ho2, hg2⟩
    have hg3 := ho.gb hg hg2 (Nat.le_refl _)
    go_wp2_with fail
    go_ret
    exact ⟨_, rfl, ho2, hg3⟩
theorem reverse0_any (w : World) : Calls Tryz.prog 187 #[.slice none 0 0] w (NilOut w) := by
  go_enter Tryz.func187, Tryz.ntmps187
  go_wp2_with fail
  refine wp_loop_rounds 1 ?_
  rw [rounds_succ]
  go_wp2_with fail
  exact bodyPost_ret (results_none rfl _ _ _) rfl ⟨rfl, rfl⟩
theorem turned_any (v : Value) (l : List Int) (w : World) (h : RI w v l) (hl : l.length ≤ 12) : Calls Tryz.prog 176 #[v] w (IntsOut w l.reverse) := by
  obtain ⟨A, n, c, rfl⟩ := h.val
  go_enter Tryz.func176, Tryz.ntmps176
  go_wp2_with (at_builtin; go_must (refine wp_copy_ints _ (.tmp 4) 190 Tryz.underlying190 rfl rfl h (by omega) (Nat.le_refl _) rfl rfl ?_))
  intro v' w1 ho hg
  rcases ho.2 with ⟨rfl, h0⟩ | ⟨g, cap, cur, rfl, -⟩
  · obtain rfl : l = [] := List.eq_nil_of_length_eq_zero h0
    clear h0 hl
    go_wp2_with fail
    refine (reverse0_any _).mono ?_
    rintro e w2 ⟨rfl, rfl⟩
    go_wp2_with fail
    go_ret
    exact ⟨_, rfl, ho, hg⟩
  · obtain ⟨m, hm⟩ : ∃ m, m = l.length := ⟨_, rfl⟩
    rw [← hm] at ho hl ⊢
    have Hm := Lib.hid hm
    clear hm
    go_wp2_with fail
    refine (reverse_any g m cap _ l _ ho Hm.out (by omega)).mono ?_
    rintro e w2 ⟨rfl, ho2, hg2⟩
    have hg3 := ho.gb hg hg2 (Nat.le_refl _)
    go_wp2_with fail
    go_ret
    exact ⟨_, rfl, ho2, hg3⟩
theorem implRowSums_any (v : Value) (l : List Int) (w : World) (h : RI w v l) : Calls Tryz.prog 140 #[v] w (RowOut w (rowSums l)) := by
  obtain ⟨A, n, c, rfl⟩ := h.val
  by_cases hv : rowValid l = true
  · have Hr : Hid (rowSums l = some (sumsFrom 0 l)) := by show _ = _; unfold rowSums; rw [if_pos hv]
    have Hv := Lib.hid hv
    clear hv
    go_enter Tryz.func140, Tryz.ntmps140
    go_wp2_with fail
    refine (rvValid_any _ l _ h).mono ?_
    rw [Hv.out]
    rintro e w1 ⟨rfl, rfl⟩
    go_wp2_with fail
    refine (sums_any _ l _ h Hv.out).mono ?_
    rintro e w2 ⟨v2, rfl, ho, hg⟩
    obtain ⟨A', n', c', rfl⟩ := ho.ri.val
    go_wp2_with fail
    go_ret2
    exact ⟨_, by rw [Hr.out]; rfl, by rw [Hr.out]; exact ho, hg⟩
  · have hv' : rowValid l = false := by simpa using hv
    have Hr : Hid (rowSums l = none) := by show _ = _; unfold rowSums; rw [if_neg hv]
    have Hv := Lib.hid hv'
    clear hv hv'
    go_enter Tryz.func140, Tryz.ntmps140
    go_wp2_with fail
    refine (rvValid_any _ l _ h).mono ?_
    rw [Hv.out]
    rintro e w1 ⟨rfl, rfl⟩
    go_wp2_with fail
    go_ret2
    exact ⟨_, by rw [Hr.out]; rfl, by rw [Hr.out]; exact OwnI.nil _ _, gb_refl _ _⟩
theorem implRowSort_any (v : Value) (l : List Int) (w : World) (h : RI w v l) : Calls Tryz.prog 141 #[v] w (RowOut w (rowSort l)) := by
  obtain ⟨A, n, c, rfl⟩ := h.val
  by_cases hv : rowValid l = true
  · have Hr : Hid (rowSort l = some (sortRow l)) := by show _ = _; unfold rowSort; rw [if_pos hv]
    have Hv := Lib.hid hv
    clear hv
    go_enter Tryz.func141, Tryz.ntmps141
    go_wp2_with fail
    refine (rvValid_any _ l _ h).mono ?_
    rw [Hv.out]
    rintro e w1 ⟨rfl, rfl⟩
    go_wp2_with fail
    refine (sorted_any _ l _ h (by have := rowValid_len Hv.out; omega)).mono ?_
    rintro e w2 ⟨v2, rfl, ho, hg⟩
    obtain ⟨A', n', c', rfl⟩ := ho.ri.val
    go_wp2_with fail
    go_ret2
    exact ⟨_, by rw [Hr.out]; rfl, by rw [Hr.out]; exact ho, hg⟩
  · have hv' : rowValid l = false := by simpa using hv
    have Hr : Hid (rowSort l = none) := by show _ = _; unfold rowSort; rw [if_neg hv]
    have Hv := Lib.hid hv'
    clear hv hv'
    go_enter Tryz.func141, Tryz.ntmps141
    go_wp2_with fail
    refine (rvValid_any _ l _ h).mono ?_
    rw [Hv.out]
    rintro e w1 ⟨rfl, rfl⟩
    go_wp2_with fail
    go_ret2
    exact ⟨_, by rw [Hr.out]; rfl, by rw [Hr.out]; exact OwnI.nil _ _, gb_refl _ _⟩
theorem implRowTurn_any (v : Value) (l : List Int) (w : World) (h : RI w v l) : Calls Tryz.prog 142 #[v] w (RowOut w (rowTurn l)) := by
  obtain ⟨A, n, c, rfl⟩ := h.val
  by_cases hv : rowValid l = true
  · have Hr : Hid (rowTurn l = some (l.reverse)) := by show _ = _; unfold rowTurn; rw [if_pos hv]
    have Hv := Lib.hid hv
    clear hv
    go_enter Tryz.func142, Tryz.ntmps142
    go_wp2_with fail
    refine (rvValid_any _ l _ h).mono ?_
    rw [Hv.out]
    rintro e w1 ⟨rfl, rfl⟩
    go_wp2_with fail
    refine (turned_any _ l _ h (by have := rowValid_len Hv.out; omega)).mono ?_
    rintro e w2 ⟨v2, rfl, ho, hg⟩
    obtain ⟨A', n', c', rfl⟩ := ho.ri.val
    go_wp2_with fail
    go_ret2
    exact ⟨_, by rw [Hr.out]; rfl, by rw [Hr.out]; exact ho, hg⟩
  · have hv' : rowValid l = false := by simpa using hv
    have Hr : Hid (rowTurn l = none) := by show _ = _; unfold rowTurn; rw [if_neg hv]
    have Hv := Lib.hid hv'
    clear hv hv'
    go_enter Tryz.func142, Tryz.ntmps142
    go_wp2_with fail
    refine (rvValid_any _ l _ h).mono ?_
    rw [Hv.out]
    rintro e w1 ⟨rfl, rfl⟩
    go_wp2_with fail
    go_ret2
    exact ⟨_, by rw [Hr.out]; rfl, by rw [Hr.out]; exact OwnI.nil _ _, gb_refl _ _⟩
end Go.Proofs.YtihobnheficpjaaGreatDoor
namespace Go.Proofs.YtihobnheficpjaaGreatDoor
open Go.RowKit

theorem TT.ts {w : World} {tb n : Nat} {f : Nat → Int} (h : TT w tb f n) (hn : n ≤ 10) : TS w 133 1 (.slice (some ⟨tb, 0, none⟩) n 10) n (((List.range n).map f).map (.int .i64)) := by
  refine ⟨by simp, some ⟨tb, 0, none⟩, 10, rfl, hn, by unfold maxLen; omega, fun e => (by cases e), .inr ⟨tb, 0, tabArr f n, rfl, h, fun j u hj => ?_⟩⟩
  have hjl := (List.getElem?_eq_some_iff.1 hj).1
  rw [List.length_map, List.length_map, List.length_range] at hjl
  rw [List.getElem?_map, List.getElem?_map, List.getElem?_range hjl] at hj
  rw [Nat.zero_add, tabArr_get f n (by omega)]
  exact hj
/-- 'append([]int(nil), xs...)' where xs lies in a block of whatever type. -/
theorem wp_copy_ts {ops : Array Oper} {rest : List Oper} {o : Oper} {a : Act} {Q : Exit → Act → World → Prop} {w : World} {E : TypeId}
    (s x : Operand) (t : TypeId) (ht : Tryz.prog.underlying t = some (.slice 3)) (hgd : o.guard = none) (ho : o.op = .call { callee := .builtin .append, args := #[s, x], argTypes := #[t, t] })
    {base : Nat} {xv : Value} {l : List Int} (hxv : TS w E 1 xv l.length (l.map (.int .i64))) (hn : l.length ≤ 1000000000) (hbase : base ≤ w.heap.size)
    (hs : a.eval s = .slice none 0 0) (hx : a.eval x = xv)
    (h : ∀ v' w', OwnI w' base v' l → w.grownBy w' none → wpList Tryz.prog ops Q rest (a.put o.dst v') w') :
    wpList Tryz.prog ops Q (o :: rest) a w := by
  obtain ⟨i, hi, hz0, hz1, hz2⟩ := info_parts info3
  obtain ⟨A, c, e, hc, hcm, hcn⟩ := TS.form hxv
  subst e
  match A, hcn with
  | none, hcn =>
    obtain rfl := hcn rfl
    have hl0 : l = [] := List.eq_nil_of_length_eq_zero (by omega)
    subst hl0
    refine wpList_append_own_none hgd s x t ho base 3 i 1 ht hi (.slice none 0 0) 0 [] hs (World.ownsRow_nil _ _ _ _) hx ?_
    exact h _ _ (OwnI.nil _ _) (gb_refl _ _)
  | some ad, hcn =>
    refine wpList_append_own _ hgd s x t ho base 3 i _ 1 8 ht hi hz0 hz1 hz2 rfl (by decide) (.slice none 0 0) 0 [] hs (World.ownsRow_nil _ _ _ _) ad l.length c (l.map (.int .i64)) hx (by rw [List.length_map, Nat.mul_one]) ?_ (ints_one l) ?_ ?_ hbase ?_
    · intro j u hj
      have hjl := (List.getElem?_eq_some_iff.1 hj).1
      rw [List.length_map] at hjl
      obtain ⟨g, o', cur, e, _, hcell⟩ := TS.at_ hxv (by omega)
      have e2 : ad = ⟨g, o', none⟩ := Option.some.inj e
      rw [e2, Addr.add_lit]
      exact hcell j u hj
    · unfold maxLen; omega
    · omega
    · intro v' w' h1 h2 _
      refine h v' w' ?_ h2
      unfold OwnI
      simpa using h1
theorem tabArr_laid (f : Nat → Int) (n : Nat) {cs : List Int} (hl : cs.length ≤ 10) : ((tabArr f n).toList.take 0 ++ (cs.map (Value.int .i64) ++ (tabArr f n).toList.drop (0 + (cs.map (Value.int .i64)).length))).toArray = tabArr (laidN f cs) n := by
  rcases cs with _ | ⟨a0, _ | ⟨a1, _ | ⟨a2, _ | ⟨a3, _ | ⟨a4, _ | ⟨a5, _ | ⟨a6, _ | ⟨a7, _ | ⟨a8, _ | ⟨a9, _ | ⟨a10, r⟩⟩⟩⟩⟩⟩⟩⟩⟩⟩⟩
  all_goals first | rfl | (simp only [List.length_cons] at hl; omega)
set_option maxRecDepth 20000 in
/-- 'copy(t.left[:], counts)'. -/
theorem wp_copy_tab {ops : Array Oper} {rest : List Oper} {o : Oper} {a : Act} {Q : Exit → Act → World → Prop} {w : World} (d s : Operand) (hgd : o.guard = none) (ho : o.op = .call { callee := .builtin .copy, args := #[d, s], argTypes := #[25, 25] })
    {tb n m c : Nat} {A : Option Addr} {f : Nat → Int} {cs : List Int} (hT : TT w tb f n) (hc : RI w (.slice A m c) cs) (hl : cs.length ≤ 10) (hd : a.eval d = .slice (some ⟨tb, 0, none⟩) 10 10) (hs : a.eval s = .slice A m c)
    (h : ∀ z w', TT w' tb (laidN f cs) n → w.grownBy w' (some tb) → wpList Tryz.prog ops Q rest (a.put o.dst z) w') :
    wpList Tryz.prog ops Q (o :: rest) a w := by
  obtain ⟨i, hi, hz0, hz1, hz2⟩ := info_parts info3
  have hsz : (Tryz.prog.info? 3).map (·.size) = some 1 := by rw [hi]; exact congrArg some (by assumption)
  have hm := hc.len
  by_cases h0 : m = 0
  · subst h0
    have e : cs = [] := List.eq_nil_of_length_eq_zero hm.symm
    subst e
    refine wpList_copy_nothing hgd d s _ _ ho 3 Tryz.underlying25 hsz _ _ 10 10 0 c hd hs (by simp) ?_
    refine h _ w ?_ (gb_refl _ _)
    have e2 : laidN f [] = f := by funext i; rfl
    rw [e2]
    exact hT
  · obtain ⟨gu, ou, x, rfl, -, -⟩ := hc.at_ (k := 0) (by omega)
    refine wpList_copy_own hgd d s _ _ ho 3 Tryz.underlying25 hsz tb 0 10 10 ⟨gu, ou, none⟩ m c hd hs (tabArr f n) 133 hT (cs.map (.int .i64)) ?_ ?_ ?_ (ints_one cs) ?_
    · rw [List.length_map, ← hm]
      exact (Nat.min_eq_left (by omega)).symm
    · intro j u hj
      have hjl := (List.getElem?_eq_some_iff.1 hj).1
      rw [List.length_map] at hjl
      obtain ⟨g', o', x', e, hx', hcell⟩ := hc.at_ (k := j) (by omega)
      injection e with e
      injection e with e1 e2
      subst e1 e2
      rw [List.getElem?_map, hx'] at hj
      rw [Addr.add_lit, hcell]
      exact hj
    · rw [List.length_map]
      show 0 + cs.length ≤ 11
      omega
    · rw [tabArr_laid f n hl]
      refine h _ _ ?_ ?_
      · exact setRow_heap w tb _ _ 133 _ hT
      · exact ⟨rfl, rfl, rfl, by simp [World.setRow], fun k hk hr => setRow_other w tb k _ (fun e => hr (by rw [e]))⟩
theorem copyTab_any (l : List Int) (E : TypeId) (v : Value) (w : World) (h : TS w E 1 v l.length (l.map (.int .i64))) (hl : l.length ≤ 1000000000) : Calls Tryz.prog 86 #[v] w (IntsOut w l) := by
  obtain ⟨A, c, rfl, -⟩ := h.form
  go_enter Tryz.func86, Tryz.ntmps86
  go_wp2_with (at_builtin; go_must (refine wp_copy_ts _ (.tmp 3) 25 Tryz.underlying25 rfl rfl h hl (Nat.le_refl _) rfl rfl ?_))
  intro v' w1 ho hg
  obtain ⟨A', n', c', rfl⟩ := ho.ri.val
  go_wp2_with fail
  go_ret
  exact ⟨_, rfl, ho, hg⟩
theorem tabList_any (tb n : Nat) (f : Nat → Int) (w : World) (h : TT w tb f n) (hn : n ≤ 10) : Calls Tryz.prog 68 #[.pointer (some ⟨tb, 0, none⟩)] w (IntsOut w ((List.range n).map f)) := by
  have hsz := h.size
  have hb10 : (n : Int) ≤ 10 := by omega
  have hb0 : (0 : Int) ≤ n := by omega
  go_enter Tryz.func68, Tryz.ntmps68
  go_wp2_with fail
  go_region_law (go_simp; go_at_call 86; refine (copyTab_any ((List.range n).map f) 133 _ _ (by simpa using (h.new (gb_drew (gb_refl w none))).ts hn) (by simp; omega)).mono ?_; rintro e w2 ⟨v2, rfl, ho, hg⟩; obtain ⟨A2, n2, c2, rfl⟩ := ho.ri.val)
  all_goals
    go_wp2_with fail
    go_ret
    exact ⟨_, rfl, ho, gb_trans (gb_drew (gb_refl w none)) hg⟩
end Go.Proofs.YtihobnheficpjaaGreatDoor
namespace Go.Proofs.YtihobnheficpjaaGreatDoor
open Go.RowKit

theorem order_bad {plan : List Node} {D : List Int} {k : Nat} {x : Int} (h : D[k]? = some x) (hs : stepOk plan (D.take k) x = false) : orderOk plan D = false := by
  obtain ⟨hk, rfl⟩ := List.getElem?_eq_some_iff.1 h
  rcases Bool.eq_false_or_eq_true (orderOk plan D) with e | e
  · rw [order_step e hk] at hs
    cases hs
  · exact e
theorem order_next {plan : List Node} {D : List Int} {k : Nat} {x : Int} (h : D[k]? = some x) (ho : orderTo plan D k = true) (hs : stepOk plan (D.take k) x = true) : orderTo plan D (k + 1) = true := by
  rw [orderTo_succ, ho, List.getD_eq_getElem?_getD, h]
  exact hs
theorem dedup_snoc (l : List Int) (x : Int) : dedup (l ++ [x]) = if x.toNat ∈ dedup l then dedup l else dedup l ++ [x.toNat] := by
  unfold dedup
  rw [List.foldl_append]
  rfl
theorem mem_dedup_int {l : List Int} (hl : ∀ y ∈ l, 0 ≤ y) {x : Int} (hx : 0 ≤ x) : x.toNat ∈ dedup l ↔ x ∈ l := by
  rw [mem_dedup]
  constructor
  · rintro ⟨f, hf, e⟩
    have := hl f hf
    obtain rfl : f = x := by omega
    exact hf
  · exact fun h => ⟨x, h, rfl⟩
theorem countsOf_frm (plan : List Node) : countsOf plan = (List.range plan.length).map fun i => ((dedup (frmAt plan i)).length : Int) := by
  unfold countsOf
  simp only [needsOf_frm]
set_option maxHeartbeats 800000 in
set_option maxRecDepth 20000 in
theorem l13Order_b (v v' : Value) (plan : List Node) (order : List Int) (w : World) (h : RN w v plan) (h' : RI w v' order) (hl : plan.length ≤ 1000000000) {b : Bool} (hb : orderOk plan order = b) :
    Calls Tryz.prog 97 #[v, v'] w fun e w' => e = .returned (.bool b) ∧ w.grownBy w' none := by
  obtain ⟨A, n, c, rfl, hnc, hn, -⟩ := h.form'
  obtain ⟨B, m, c', rfl, hmc, hm⟩ := h'.form'
  have hle := h'.le
  rw [← hm] at hle
  have hn9 : n ≤ 1000000000 := by omega
  have Hn := Lib.hid hn
  have Hm := Lib.hid hm
  have Hb := Lib.hid hb
  clear hn hm hb hl
  go_enter Tryz.func97, Tryz.ntmps97
  go_wp2_with fail
  go_loopg [5] (m + 1) (fun mm i wr => ∃ k : Nat, k ≤ m ∧ mm = m + 1 - k ∧ i = .int .i64 k ∧ Hid (orderTo plan order k = true) ∧ w.grownBy wr none)
  case atStart => exact ⟨0, Nat.zero_le _, rfl, rfl, by show _ = _; rfl, gb_refl _ _⟩
  case round =>
    obtain ⟨k, hk, rfl, rfl, Hk, hg⟩ := hrel
    by_cases hlt : k < m
    · obtain ⟨g, o, x, rfl, hx, c0⟩ := (h'.new hg).at_ hlt
      have Hx := Lib.hid hx
      have ht := (h'.new hg).take (k := k) (by omega)
      have hkc : k ≤ c' := by omega
      clear hx
      by_cases hin : 0 ≤ x ∧ x ≤ (n : Int) - 1
      · have Hin : Hid ((decide (0 ≤ x) && decide (x ≤ (n : Int) - 1)) = true) := by show _ = _; simp [hin.1, hin.2]
        obtain ⟨j, rfl⟩ := Int.eq_ofNat_of_zero_le hin.1
        have hj : j < n := by omega
        clear hin
        obtain ⟨g2, o2, nd, f, r, rfl, hnd, d0, d1, d2, hf, -⟩ := (h.new hg).at_ hj
        have hfr : Hid (frmAt plan j = nd.frm) := frmAt_get hnd
        clear hnd d0 d2
        obtain ⟨Af, nf, cf, rfl⟩ := hf.val
        by_cases hD : (j : Int) ∈ order.take k
        · have HD : Hid (decide ((j : Int) ∈ order.take k) = true) := decide_eq_true hD
          have Hr : Hid (b = false) := by
            show _ = _
            rw [← Hb.out]
            refine order_bad Hx.out ?_
            unfold stepOk
            rw [decide_eq_true hD]
            simp
          clear hD Hk
          go_wp2_with fail
          go_quiet ((first
            | (go_at_call 53; exact quiet_l (l6In_b _ _ _ _ Hin.out))
            | (go_at_call 102; exact quiet_l (l3Has_b _ _ _ _ (by exact ht) HD.out))))
          go_wp2_with fail
          go_ret
          exact ⟨by rw [Hr.out]; rfl, gb_drewN hg _⟩
        · have HD : Hid (decide ((j : Int) ∈ order.take k) = false) := decide_eq_false hD
          by_cases hall : (nd.frm.all fun y => decide (y ∈ order.take k)) = true
          · have Hall := Lib.hid hall
            have Hs : Hid (orderTo plan order (k + 1) = true) := by
              refine order_next Hx.out Hk.out (stepOk_iff.2 ⟨Int.natCast_nonneg j, by rw [← Hn.out]; omega, hD, ?_⟩)
              rw [Int.toNat_natCast, hfr.out]
              intro y hy
              exact of_decide_eq_true (List.all_eq_true.1 hall y hy)
            clear hD hall Hk
            go_wp2_with fail
            go_quiet ((first
              | (go_at_call 53; exact quiet_l (l6In_b _ _ _ _ Hin.out))
              | (go_at_call 102; exact quiet_l (l3Has_b _ _ _ _ (by exact ht) HD.out))
              | (go_at_call 128; exact quiet_l (l5All_b _ _ _ nd.frm _ (by exact ht) (by exact hf) Hall.out))))
            go_wp2_with fail
            go_roundg (m + 1 - (k + 1))
            case measure => omega
            case rel => exact ⟨k + 1, by omega, rfl, by go_num, Hs, gb_drewN hg _⟩
          · have hall' : (nd.frm.all fun y => decide (y ∈ order.take k)) = false := by simpa using hall
            have Hall := Lib.hid hall'
            have Hr : Hid (b = false) := by
              show _ = _
              rw [← Hb.out]
              refine order_bad Hx.out ?_
              unfold stepOk
              rw [Int.toNat_natCast, hfr.out, hall']
              simp
            clear hD hall hall' Hk
            go_wp2_with fail
            go_quiet ((first
              | (go_at_call 53; exact quiet_l (l6In_b _ _ _ _ Hin.out))
              | (go_at_call 102; exact quiet_l (l3Has_b _ _ _ _ (by exact ht) HD.out))
              | (go_at_call 128; exact quiet_l (l5All_b _ _ _ nd.frm _ (by exact ht) (by exact hf) Hall.out))))
            go_wp2_with fail
            go_ret
            exact ⟨by rw [Hr.out]; rfl, gb_drewN hg _⟩
      · have Hin : Hid ((decide (0 ≤ x) && decide (x ≤ (n : Int) - 1)) = false) := by
          show _ = _
          rw [Bool.and_eq_false_iff, decide_eq_false_iff_not, decide_eq_false_iff_not]
          omega
        have Hr : Hid (b = false) := by
          show _ = _
          rw [← Hb.out]
          refine order_bad Hx.out ?_
          rcases Bool.eq_false_or_eq_true (stepOk plan (order.take k) x) with e | e
          · obtain ⟨h1, h2, _⟩ := stepOk_iff.1 e
            rw [← Hn.out] at h2
            exact absurd ⟨h1, by omega⟩ hin
          · exact e
        clear hin Hk
        go_wp2_with fail
        go_quiet ((first
          | (go_at_call 53; exact quiet_l (l6In_b _ _ _ _ Hin.out))))
        go_wp2_with fail
        go_ret
        exact ⟨by rw [Hr.out]; rfl, gb_drewN hg _⟩
    · obtain rfl : k = m := by omega
      have Hr : Hid (b = true) := by
        show _ = _
        rw [← Hb.out]
        have := Hk.out
        rw [Hm.out] at this
        exact this
      clear Hk
      go_wp2_with fail
      go_ret
      exact ⟨by rw [Hr.out]; rfl, hg⟩
end Go.Proofs.YtihobnheficpjaaGreatDoor
