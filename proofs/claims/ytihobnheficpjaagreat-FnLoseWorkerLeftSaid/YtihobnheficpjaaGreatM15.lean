/- Plain facts on sorting by insertion and turning in place. Conditions: none. · Walks: the library's sort of few integers, and its turning in place. · Walks: impl's rows: copyInts, join, sums, turned, RowAdd, RowTimes, RowSums, RowTurn. · Walks: the library's sort of few integers; Reverse. · Walks: impl's rows: sums, sorted, turned, RowSums, RowSort, RowTurn. · Walks: spec's rows. · Walks: spec's rows: RowSums, l1Put, RowSort, RowTurn. -/
import Derived.Test.YtihobnheficpjaaGreatM02
import Derived.Test.YtihobnheficpjaaGreatM09
import Derived.Test.YtihobnheficpjaaGreatM14
import Derived.Test.YtihobnheficpjaaGreatM11
import Derived.IntWalk
import Derived.Laws.AppendOwnNone
import Derived.Test.YtihobnheficpjaaGreatM07
import Derived.Deep.RegionLaw
import Derived.Deep.AppendLies
import Derived.Test.YtihobnheficpjaaGreatM08
namespace Go.Proofs.YtihobnheficpjaaGreat
theorem putRow_at (S : List Int) (x : Int) (j : Nat) (h1 : ∀ y ∈ S.take j, ¬ x < y) (h2 : ∀ y ∈ S.drop j, x < y) : putRow S x = S.take j ++ x :: S.drop j := by
  induction S generalizing j with
  | nil => simp [putRow]
  | cons y ys ih =>
    match j with
    | 0 =>
      have := h2 y (by simp)
      unfold putRow
      rw [if_pos this]
      rfl
    | j + 1 =>
      have := h1 y (by simp)
      unfold putRow
      rw [if_neg this, ih j (fun z hz => h1 z (by simp [hz])) (fun z hz => h2 z (by simpa using hz))]
      rfl
/-- While x = l[i] is moved to its place among the first i ones: it is at place j. -/
def insAt (l : List Int) (i j : Nat) (x : Int) : List Int := (sortRow (l.take i)).take j ++ x :: ((sortRow (l.take i)).drop j ++ l.drop (i + 1))
def sortTo (l : List Int) (i : Nat) : List Int := sortRow (l.take i) ++ l.drop i
theorem sortRow_snoc (l : List Int) (x : Int) : sortRow (l ++ [x]) = putRow (sortRow l) x := by
  unfold sortRow
  rw [List.foldl_append]
  rfl
theorem sortTo_len (l : List Int) (i : Nat) : (sortTo l i).length = l.length := by
  unfold sortTo
  rw [List.length_append, sortRow_len, List.length_take, List.length_drop]
  omega
theorem insAt_len {l : List Int} {i j : Nat} {x : Int} (hi : i < l.length) (hj : j ≤ i) : (insAt l i j x).length = l.length := by
  unfold insAt
  rw [List.length_append, List.length_cons, List.length_append, List.length_take, List.length_drop, List.length_drop, sortRow_len, List.length_take]
  omega
theorem sortTo_zero (l : List Int) : sortTo l 0 = l := by simp [sortTo, sortRow]
theorem sortTo_one (l : List Int) : sortTo l 1 = l := by
  cases l with
  | nil => rfl
  | cons x xs => simp [sortTo, sortRow, putRow]
theorem sortTo_all (l : List Int) {i : Nat} (h : l.length ≤ i) : sortTo l i = sortRow l := by
  unfold sortTo
  rw [List.take_of_length_le h, List.drop_of_length_le h, List.append_nil]
theorem insAt_begin {l : List Int} {i : Nat} {x : Int} (h : l[i]? = some x) : sortTo l i = insAt l i i x := by
  obtain ⟨hi, rfl⟩ := List.getElem?_eq_some_iff.1 h
  have hl : (sortRow (l.take i)).length = i := by rw [sortRow_len, List.length_take]; omega
  unfold sortTo insAt
  rw [List.take_of_length_le (l := sortRow (l.take i)) (by omega), List.drop_of_length_le (l := sortRow (l.take i)) (by omega), List.nil_append, List.drop_eq_getElem_cons hi]
theorem insAt_get {l : List Int} {i j : Nat} {x : Int} (hi : i < l.length) (hj : j ≤ i) : (insAt l i j x)[j]? = some x := by
  have hl : (sortRow (l.take i)).length = i := by rw [sortRow_len, List.length_take]; omega
  unfold insAt
  rw [List.getElem?_append_right (by rw [List.length_take]; omega), List.length_take, show j - min j (sortRow (l.take i)).length = 0 by omega]
  rfl
theorem insAt_prev {l : List Int} {i j : Nat} {x : Int} (hi : i < l.length) (hj : j ≤ i) (h0 : 0 < j) : ∃ y, (insAt l i j x)[j - 1]? = some y ∧ (sortRow (l.take i))[j - 1]? = some y := by
  have hl : (sortRow (l.take i)).length = i := by rw [sortRow_len, List.length_take]; omega
  refine ⟨(sortRow (l.take i))[j - 1], ?_, List.getElem?_eq_getElem (by omega)⟩
  unfold insAt
  rw [List.getElem?_append_left (by rw [List.length_take]; omega), List.getElem?_take, if_pos (by omega)]
  exact List.getElem?_eq_getElem (by omega)
theorem set_swap (P Q : List Int) (y x : Int) : ((P ++ y :: x :: Q).set (P.length + 1) y).set P.length x = P ++ x :: y :: Q := by
  rw [List.set_append_right _ _ (by omega), show P.length + 1 - P.length = 1 by omega, List.set_append_right _ _ (by omega), Nat.sub_self]
  rfl
theorem insAt_swap {l : List Int} {i j : Nat} {x y : Int} (hi : i < l.length) (hj : j ≤ i) (h0 : 0 < j) (hy : (sortRow (l.take i))[j - 1]? = some y) : ((insAt l i j x).set j y).set (j - 1) x = insAt l i (j - 1) x := by
  have hl : (sortRow (l.take i)).length = i := by rw [sortRow_len, List.length_take]; omega
  obtain ⟨k, rfl⟩ : ∃ k, j = k + 1 := ⟨j - 1, by omega⟩
  simp only [Nat.add_sub_cancel] at hy ⊢
  obtain ⟨hk, hy'⟩ := List.getElem?_eq_some_iff.1 hy
  have e1 : insAt l i (k + 1) x = (sortRow (l.take i)).take k ++ y :: x :: ((sortRow (l.take i)).drop (k + 1) ++ l.drop (i + 1)) := by
    unfold insAt
    rw [List.take_succ_eq_append_getElem hk, hy', List.append_assoc]
    rfl
  have e2 : insAt l i k x = (sortRow (l.take i)).take k ++ x :: y :: ((sortRow (l.take i)).drop (k + 1) ++ l.drop (i + 1)) := by
    unfold insAt
    rw [List.drop_eq_getElem_cons hk, hy']
    rfl
  rw [e1, e2]
  have := set_swap ((sortRow (l.take i)).take k) ((sortRow (l.take i)).drop (k + 1) ++ l.drop (i + 1)) y x
  rw [List.length_take, show min k (sortRow (l.take i)).length = k by omega] at this
  exact this
theorem insAt_end {l : List Int} {i j : Nat} {x : Int} (h : l[i]? = some x) (hj : j ≤ i) (h1 : j = 0 ∨ ∃ y, (sortRow (l.take i))[j - 1]? = some y ∧ ¬ x < y) (h2 : ∀ y ∈ (sortRow (l.take i)).drop j, x < y) : insAt l i j x = sortTo l (i + 1) := by
  obtain ⟨hi, hx⟩ := List.getElem?_eq_some_iff.1 h
  have hl : (sortRow (l.take i)).length = i := by rw [sortRow_len, List.length_take]; omega
  have hs := sortRow_sorted (l.take i)
  have h3 : ∀ y ∈ (sortRow (l.take i)).take j, ¬ x < y := by
    intro y hy
    rcases h1 with rfl | ⟨z, hz, hzx⟩
    · simp at hy
    · obtain ⟨a, ha, rfl⟩ := List.mem_take_iff_getElem.1 hy
      obtain ⟨hk, rfl⟩ := List.getElem?_eq_some_iff.1 hz
      by_cases e : a = j - 1
      · subst e
        exact hzx
      · have := List.pairwise_iff_getElem.1 hs a (j - 1) (by omega) hk (by omega)
        omega
  unfold insAt sortTo
  rw [List.take_succ_eq_append_getElem hi, hx, sortRow_snoc, putRow_at _ _ j h3 h2, List.append_assoc]
  rfl
theorem drop_more {S : List Int} {j : Nat} {x y : Int} (h0 : 0 < j) (hy : S[j - 1]? = some y) (hx : x < y) (h : ∀ z ∈ S.drop j, x < z) : ∀ z ∈ S.drop (j - 1), x < z := by
  obtain ⟨hk, rfl⟩ := List.getElem?_eq_some_iff.1 hy
  intro z hz
  rw [List.drop_eq_getElem_cons hk, show j - 1 + 1 = j by omega] at hz
  rcases List.mem_cons.1 hz with rfl | hz
  · exact hx
  · exact h z hz
/-- m is l with the first k and the last k ones exchanged. -/
def RevTo (l m : List Int) (k : Nat) : Prop := m.length = l.length ∧ ∀ i, i < l.length → m[i]? = if i < k ∨ l.length - k ≤ i then l[l.length - 1 - i]? else l[i]?
theorem RevTo.zero (l : List Int) : RevTo l l 0 := ⟨rfl, fun i hi => by rw [if_neg (by omega)]⟩
theorem RevTo.step {l m : List Int} {k : Nat} {x y : Int} (h : RevTo l m k) (hk : k < l.length - 1 - k) (hx : m[k]? = some x) (hy : m[l.length - 1 - k]? = some y) : RevTo l ((m.set k y).set (l.length - 1 - k) x) (k + 1) := by
  obtain ⟨h1, h2⟩ := h
  have ex := h2 k (by omega)
  have ey := h2 (l.length - 1 - k) (by omega)
  rw [if_neg (by omega), hx] at ex
  rw [if_neg (by omega), hy] at ey
  refine ⟨by simp [h1], fun i hi => ?_⟩
  rw [List.getElem?_set, List.length_set, List.getElem?_set]
  by_cases e1 : l.length - 1 - k = i
  · rw [if_pos e1, if_pos (by omega), if_pos (by omega), ← e1, show l.length - 1 - (l.length - 1 - k) = k by omega]
    exact ex
  · rw [if_neg e1]
    by_cases e2 : k = i
    · subst e2
      rw [if_pos rfl, if_pos (by omega), if_pos (by omega)]
      exact ey
    · rw [if_neg e2, h2 i hi]
      by_cases e3 : i < k ∨ l.length - k ≤ i
      · rw [if_pos e3, if_pos (by omega)]
      · rw [if_neg e3, if_neg (by omega)]
theorem RevTo.done {l m : List Int} {k : Nat} (h : RevTo l m k) (hk : l.length - 1 - k ≤ k) : m = l.reverse := by
  obtain ⟨h1, h2⟩ := h
  apply List.ext_getElem?
  intro i
  by_cases hi : i < l.length
  · rw [h2 i hi, List.getElem?_reverse hi]
    split
    · rfl
    · rename_i hn
      congr 1
      omega
  · rw [List.getElem?_eq_none (by omega), List.getElem?_eq_none (by simp; omega)]
end Go.Proofs.YtihobnheficpjaaGreat
namespace Go.Proofs.YtihobnheficpjaaGreat
open Go.RowKit

theorem isNaN_any (x : Int) (w : World) : Calls Tryz.prog 128 #[.int .i64 x] w fun e w' => e = .returned (.bool false) ∧ w = w' := by
  go_enter Tryz.func128, Tryz.ntmps128
  go_wp2_with fail
  go_ret
  exact ⟨rfl, rfl⟩
theorem less_any (x y : Int) (w : World) : Calls Tryz.prog 104 #[.int .i64 x, .int .i64 y] w fun e w' => e = .returned (.bool (decide (x < y))) ∧ w = w' := by
  go_enter Tryz.func104, Tryz.ntmps104
  go_wp2_with fail
  refine (isNaN_any _ _).mono ?_
  rintro e w' ⟨rfl, rfl⟩
  go_wp2_with fail
  go_ret
  exact ⟨rfl, rfl⟩
theorem less_b (x y : Int) (w : World) {b : Bool} (hb : decide (x < y) = b) : Calls Tryz.prog 104 #[.int .i64 x, .int .i64 y] w fun e w' => e = .returned (.bool b) ∧ w = w' := hb ▸ less_any x y w
def SortOut (w : World) (base : Nat) (v : Value) (l : List Int) (e : Ending) (w' : World) : Prop := e = .returned (.tuple #[]) ∧ OwnI w' base v l ∧ w.grownBy w' v.ownBlock
set_option maxHeartbeats 1000000 in
set_option maxRecDepth 20000 in
theorem insertion_any (g n cap base : Nat) (l : List Int) (w : World) (h : OwnI w base (.slice (some ⟨g, 0, none⟩) n cap) l) (hn : n = l.length) (hl : n ≤ 12) (nz : Int) (hnz : nz = (n : Nat) := by omega) :
    Calls Tryz.prog 98 #[.slice (some ⟨g, 0, none⟩) n cap, .int .i64 0, .int .i64 nz] w (SortOut w base (.slice (some ⟨g, 0, none⟩) n cap) (sortRow l)) := by
  subst hnz
  have Hn := Lib.hid hn
  clear hn
  go_enter Tryz.func98, Tryz.ntmps98
  go_wp2_with fail
  go_loopg [6] (n + 1) (fun m i wr => ∃ k : Nat, 1 ≤ k ∧ k ≤ n + 1 ∧ m = n + 2 - k ∧ i = .int .i64 k ∧ Hid (OwnI wr base (.slice (some ⟨g, 0, none⟩) n cap) (sortTo l k)) ∧ w.grownBy wr (some g))
  case atStart => exact ⟨1, Nat.le_refl _, by omega, by omega, rfl, by show OwnI _ _ _ _; rw [sortTo_one]; exact h, gb_refl _ _⟩
  case round =>
    clear h
    obtain ⟨k, hk1, hk, rfl, rfl, HO, hg⟩ := hrel
    by_cases hlt : k < n
    · obtain ⟨x, hx⟩ : ∃ x, l[k]? = some x := ⟨_, List.getElem?_eq_getElem (by rw [← Hn.out]; exact hlt)⟩
      have HO2 := HO.out
      rw [insAt_begin hx] at HO2
      have HO2 := Lib.hid HO2
      have Hx := Lib.hid hx
      clear HO hx
      obtain ⟨wo, rfl⟩ : ∃ wo : World, wo = wr := ⟨_, rfl⟩
      go_wp2_with fail
      go_loopg [7] (k + 1) (fun m i wr => ∃ j : Nat, j ≤ k ∧ m = j + 1 ∧ i = .int .i64 j ∧ Hid (OwnI wr base (.slice (some ⟨g, 0, none⟩) n cap) (insAt l k j x)) ∧ Hid (∀ y ∈ (sortRow (l.take k)).drop j, x < y) ∧ w.grownBy wr (some g))
      case atStart => exact ⟨k, Nat.le_refl _, rfl, rfl, HO2, by
        intro y hy
        rw [List.drop_of_length_le (by rw [sortRow_len, List.length_take]; omega)] at hy
        simp at hy, hg⟩
      case round =>
        clear HO2 hg
        obtain ⟨j, hj, rfl, rfl, HO, Hgt, hg⟩ := hrel
        have hkl : k < l.length := by rw [← Hn.out]; exact hlt
        have hgetj := insAt_get (l := l) (i := k) (j := j) (x := x) hkl hj
        have hnl : n = (insAt l k j x).length := by rw [insAt_len hkl hj]; exact Hn.out
        by_cases hj0 : 0 < j
        · obtain ⟨y, hy1, hy2⟩ := insAt_prev (l := l) (i := k) (j := j) (x := x) hkl hj hj0
          obtain ⟨j', rfl⟩ : ∃ j', j = j' + 1 := ⟨j - 1, by omega⟩
          simp only [Nat.add_sub_cancel] at hy1 hy2
          obtain ⟨c0, f0, -, -⟩ := HO.out.cell hgetj
          obtain ⟨c1, f1, -, -⟩ := HO.out.cell hy1
          have e0 : IntKind.i64.wrap (((j' + 1 : Nat) : Int) - 1) = (j' : Nat) := by rw [show ((j' + 1 : Nat) : Int) - 1 = (j' : Nat) by omega]; exact IntWalk.i64_in _ (by omega)
          have hjn : j' + 1 < n := by omega
          by_cases hxy : x < y
          · have Hb := Lib.hid (decide_eq_true hxy)
            have Hgt2 : Hid (∀ z ∈ (sortRow (l.take k)).drop j', x < z) := drop_more (j := j' + 1) hj0 hy2 hxy Hgt.out
            have hO3 := ((HO.out.set_ hnl (j' + 1) y).set_ (by rw [List.length_set]; exact hnl) j' x)
            have hsw := insAt_swap (l := l) (i := k) (j := j' + 1) (x := x) hkl hj hj0 hy2
            simp only [Nat.add_sub_cancel] at hsw
            rw [hsw] at hO3
            have HO3 := Lib.hid hO3
            have hg3 : w.grownBy ((wr.setCell ⟨g, j' + 1, none⟩ (.int .i64 y)).setCell ⟨g, j', none⟩ (.int .i64 x)) (some g) := gb_set (p := ⟨g, j', none⟩) (gb_set (p := ⟨g, j' + 1, none⟩) hg (.inr rfl) _) (.inr rfl) _
            clear hO3 hsw hgetj hnl hy1 hy2 HO Hgt hg hkl
            go_wp2_with fail
            go_quiet ((go_at_call 104; exact quiet_l (less_b _ _ _ Hb.out)))
            go_wp2_with fail
            go_region
            all_goals
              go_wp2_with fail
              go_roundg (j' + 1)
              case measure => omega
              case rel => exact ⟨j', by omega, rfl, by go_num, HO3, Hgt2, gb_drew (gb_drewN hg3 _)⟩
          · have Hb := Lib.hid (decide_eq_false hxy)
            have he := insAt_end Hx.out hj (.inr ⟨y, hy2, hxy⟩) Hgt.out
            have HO3 := HO.out
            rw [he] at HO3
            have HO3 := Lib.hid HO3
            clear he hgetj hnl hy1 hy2 HO Hgt hkl hxy
            go_wp2_with fail
            go_quiet ((go_at_call 104; exact quiet_l (less_b _ _ _ Hb.out)))
            go_wp2_with fail
            go_roundg (n + 2 - (k + 1))
            case measure => omega
            case rel => exact ⟨k + 1, by omega, by omega, rfl, by go_num, HO3, gb_drewN hg _⟩
        · obtain rfl : j = 0 := by omega
          have he := insAt_end Hx.out hj (.inl rfl) Hgt.out
          have HO3 := HO.out
          rw [he] at HO3
          have HO3 := Lib.hid HO3
          clear he hgetj hnl HO Hgt hkl hj0
          go_wp2_with fail
          go_quiet (fail)
          go_wp2_with fail
          go_roundg (n + 2 - (k + 1))
          case measure => omega
          case rel => exact ⟨k + 1, by omega, by omega, rfl, by go_num, HO3, gb_drewN hg _⟩
    · have HO2 := HO.out
      rw [sortTo_all l (by rw [← Hn.out]; omega)] at HO2
      have HO2 := Lib.hid HO2
      clear HO
      go_wp2_with fail
      exact bodyPost_ret (results_none rfl _ _ _) rfl ⟨rfl, HO2.out, hg⟩
end Go.Proofs.YtihobnheficpjaaGreat
namespace Go.Proofs.YtihobnheficpjaaGreat
open Go.RowKit

def RowOut (w : World) (r : Option (List Int)) (e : Ending) (w' : World) : Prop := ∃ v, e = .returned (.tuple #[v, .bool r.isSome]) ∧ OwnI w' w.heap.size v (r.getD []) ∧ w.grownBy w' none
/-- 'append(T(nil), x...)': a copy. -/
theorem wp_copy_ints {ops : Array Oper} {rest : List Oper} {o : Oper} {a : Act} {Q : Exit → Act → World → Prop} {w : World}
    (s x : Operand) (t : TypeId) (ht : Tryz.prog.underlying t = some (.slice 3)) (hgd : o.guard = none) (ho : o.op = .call { callee := .builtin .append, args := #[s, x], argTypes := #[t, t] })
    {base : Nat} {xv : Value} {l : List Int} (hxv : RI w xv l) (hn : l.length ≤ 1000000000) (hbase : base ≤ w.heap.size)
    (hs : a.eval s = .slice none 0 0) (hx : a.eval x = xv)
    (h : ∀ v' w', OwnI w' base v' l → w.grownBy w' none → wpList Tryz.prog ops Q rest (a.put o.dst v') w') :
    wpList Tryz.prog ops Q (o :: rest) a w := by
  obtain ⟨i, hi, hz0, hz1, hz2⟩ := info_parts info3
  obtain ⟨A, c, e, hc, hcm, hcn⟩ := TS.form hxv
  subst e
  match A, hcn with
  | none, hcn =>
    obtain rfl := hcn rfl
    have hl0 : l = [] := List.eq_nil_of_length_eq_zero (by omega)
    subst hl0
    refine wpList_append_own_none hgd s x t ho base 3 i 1 ht hi (.slice none 0 0) 0 [] hs (World.ownsRow_nil _ _ _ _) hx ?_
    exact h _ _ (OwnI.nil _ _) (gb_refl _ _)
  | some ad, hcn =>
    refine wpList_append_own _ hgd s x t ho base 3 i _ 1 8 ht hi hz0 hz1 hz2 rfl (by decide) (.slice none 0 0) 0 [] hs (World.ownsRow_nil _ _ _ _) ad l.length c (l.map (.int .i64)) hx (by rw [List.length_map, Nat.mul_one]) ?_ (ints_one l) ?_ ?_ hbase ?_
    · intro j u hj
      have hjl := (List.getElem?_eq_some_iff.1 hj).1
      rw [List.length_map] at hjl
      obtain ⟨g, o', cur, e, _, hcell⟩ := TS.at_ hxv (by omega)
      have e2 : ad = ⟨g, o', none⟩ := Option.some.inj e
      rw [e2, Addr.add_lit]
      exact hcell j u hj
    · unfold maxLen; omega
    · omega
    · intro v' w' h1 h2 _
      refine h v' w' ?_ h2
      unfold OwnI
      simpa using h1
theorem copyInts_any (v : Value) (l : List Int) (w : World) (h : RI w v l) (hl : l.length ≤ 1000000000) : Calls Tryz.prog 16 #[v] w (IntsOut w l) := by
  obtain ⟨A, n, c, rfl⟩ := h.val
  go_enter Tryz.func16, Tryz.ntmps16
  go_wp2_with (at_builtin; go_must (refine wp_copy_ints _ (.tmp 3) 25 Tryz.underlying25 rfl rfl h hl (Nat.le_refl _) rfl rfl ?_))
  intro v' w1 ho hg
  obtain ⟨A', n', c', rfl⟩ := ho.ri.val
  go_wp2_with fail
  go_ret
  exact ⟨_, rfl, ho, hg⟩
theorem addF_any (x y : Int) (w : World) (h0 : 0 ≤ x) (h1 : x ≤ 1008) (h2 : 0 ≤ y) (h3 : y ≤ 1008) : Calls Tryz.prog 118 #[.int .i64 x, .int .i64 y] w fun e w' => e = .returned (.int .i64 (addI x y)) ∧ w = w' := by
  go_enter Tryz.func118, Tryz.ntmps118
  go_wp2_with fail
  go_ret
  exact ⟨rfl, rfl⟩
theorem mulF_any (x y : Int) (w : World) (h0 : 0 ≤ x) (h1 : x ≤ 1008) (h2 : 0 ≤ y) (h3 : y ≤ 1008) : Calls Tryz.prog 119 #[.int .i64 x, .int .i64 y] w fun e w' => e = .returned (.int .i64 (mulI x y)) ∧ w = w' := by
  have e1 : IntKind.i64.wrap (x * y) = x * y := IntWalk.i64_in _ (by
    have := Int.mul_nonneg h0 h2
    have := Int.mul_le_mul h1 h3 h2 (by omega)
    omega)
  go_enter Tryz.func119, Tryz.ntmps119
  go_wp2_with fail
  go_ret
  exact ⟨by first | rfl | simp [mulI, e1], rfl⟩
theorem zipRow_snoc (f : Int → Int → Int) {a b : List Int} {k : Nat} {x y : Int} (hx : a[k]? = some x) (hy : b[k]? = some y) : zipRow f (a.take (k + 1)) (b.take (k + 1)) = zipRow f (a.take k) (b.take k) ++ [f x y % 1009] := by
  obtain ⟨h1, rfl⟩ := List.getElem?_eq_some_iff.1 hx
  obtain ⟨h2, rfl⟩ := List.getElem?_eq_some_iff.1 hy
  unfold zipRow
  rw [List.take_succ_eq_append_getElem h1, List.take_succ_eq_append_getElem h2, List.zipWith_append (by rw [List.length_take, List.length_take]; omega)]
  rfl
theorem zipRow_take_len (f : Int → Int → Int) {a b : List Int} {k : Nat} (h1 : k ≤ a.length) (h2 : k ≤ b.length) : (zipRow f (a.take k) (b.take k)).length = k := by
  unfold zipRow
  rw [List.length_zipWith, List.length_take, List.length_take]
  omega
def fOf (fid : Nat) : Int → Int → Int := if fid = 118 then addI else mulI
theorem fOf_bound (fid : Nat) {x y : Int} (h0 : 0 ≤ x) (h1 : x ≤ 1008) (h2 : 0 ≤ y) (h3 : y ≤ 1008) : 0 ≤ fOf fid x y ∧ fOf fid x y ≤ 1016064 := by
  unfold fOf
  split
  · unfold addI; omega
  · unfold mulI
    refine ⟨Int.mul_nonneg h0 h2, ?_⟩
    have := Int.mul_le_mul h1 h3 h2 (by omega)
    omega
theorem fOf_calls (fid : Nat) (hfid : fid = 118 ∨ fid = 119) (x y : Int) (w : World) (h0 : 0 ≤ x) (h1 : x ≤ 1008) (h2 : 0 ≤ y) (h3 : y ≤ 1008) :
    Calls Tryz.prog fid #[.int .i64 x, .int .i64 y] w fun e w' => e = .returned (.int .i64 (fOf fid x y)) ∧ w = w' := by
  rcases hfid with rfl | rfl
  · exact addF_any x y w h0 h1 h2 h3
  · exact mulF_any x y w h0 h1 h2 h3
set_option maxHeartbeats 800000 in
theorem join_any (va vb : Value) (a b : List Int) (fid : Nat) (hfid : fid = 118 ∨ fid = 119) (w : World) (ha : RI w va a) (hb : RI w vb b) :
    Calls Tryz.prog 117 #[va, vb, .func (.func fid) #[] #[]] w (RowOut w (rowBoth (fOf fid) a b)) := by
  obtain ⟨A, n, c, rfl, hc, hn⟩ := ha.form'
  obtain ⟨B, m, d, rfl, hd, hm⟩ := hb.form'
  have Hn := Lib.hid hn
  have Hm := Lib.hid hm
  have hle := ha.le
  have hle2 := hb.le
  rw [← hn] at hle
  rw [← hm] at hle2
  clear hn hm
  have bad : (rowValid a && rowValid b && decide (a.length = b.length)) = false → rowBoth (fOf fid) a b = none := by
    intro h
    unfold rowBoth
    rw [if_neg (by rw [h]; simp)]
  by_cases hva : rowValid a = true
  · by_cases hvb : rowValid b = true
    · by_cases hab : n = m
      · have Hva := Lib.hid hva
        have Hvb := Lib.hid hvb
        have hn6 : n ≤ 6 := by rw [Hn.out]; exact rowValid_len hva
        have Hr : Hid (rowBoth (fOf fid) a b = some (zipRow (fOf fid) a b)) := by
          show _ = _
          unfold rowBoth
          rw [hva, hvb, ← Hn.out, ← Hm.out, if_pos (by simp [hab])]
        subst hab
        obtain ⟨F, hF⟩ : ∃ F, F = fOf fid := ⟨_, rfl⟩
        have Hcall := Lib.hid (fun x y w => fOf_calls fid hfid x y w)
        have Hbd := Lib.hid (fun (x y : Int) => @fOf_bound fid x y)
        rw [← hF] at Hr Hcall Hbd ⊢
        clear bad hva hvb hF
        obtain ⟨i0, hi, hz0, hz1, hz2⟩ := info_parts info3
        rcases hfid with rfl | rfl
        all_goals
          go_enter Tryz.func117, Tryz.ntmps117
          go_wp2_with fail
          refine (rvValid_any _ a _ ha).mono ?_
          rw [Hva.out]
          rintro e w' ⟨rfl, rfl⟩
          go_wp2_with fail
          refine (rvValid_any _ b _ hb).mono ?_
          rw [Hvb.out]
          rintro e w' ⟨rfl, rfl⟩
          go_wp2_with (at_make; go_must (refine wpList_make_full _ rfl _ _ 143 rfl w.heap.size 3 i0 _ 1 Tryz.underlying143 hi hz0 hz1 _ _ _ _ n rfl rfl rfl rfl (by rw [hz2]; omega) (by unfold maxLen; omega) (Nat.le_refl _) ?_))
          intro w0 hown0 hg0
          have hO0 : OwnI w0 w.heap.size (.slice (some ⟨w.heap.size, 0, none⟩) n n) (List.replicate n 0) := by
            refine OwnI.made ?_
            have e : n * 1 = n := Nat.mul_one n
            first | exact hown0 | (rw [e] at hown0; exact hown0) | (simp at hown0; exact hown0)
          clear hown0
          go_wp2_with fail
          go_loopg [31] (n + 1) (fun mm i wr => ∃ k : Nat, k ≤ n ∧ mm = n + 1 - k ∧ i = .int .i64 k ∧ Hid (OwnI wr w.heap.size (.slice (some ⟨w.heap.size, 0, none⟩) n n) (zipRow F (a.take k) (b.take k) ++ List.replicate (n - k) 0)) ∧ w.grownBy wr none)
          case atStart => exact ⟨0, Nat.zero_le _, rfl, rfl, hO0, hg0⟩
          case round =>
            clear hO0 hg0
            obtain ⟨k, hk, rfl, rfl, HO, hg⟩ := hrel
            by_cases hlt : k < n
            · obtain ⟨ga, oa, x, rfl, hx, c0⟩ := (ha.new hg).at_ hlt
              obtain ⟨gb, ob, y, rfl, hy, c1⟩ := (hb.new hg).at_ hlt
              obtain ⟨hx0, hx1⟩ := rowValid_mem Hva.out (List.mem_of_getElem? hx)
              obtain ⟨hy0, hy1⟩ := rowValid_mem Hvb.out (List.mem_of_getElem? hy)
              have hzl := zipRow_take_len F (a := a) (b := b) (k := k) (by rw [← Hn.out]; omega) (by rw [← Hm.out]; omega)
              have hll : (zipRow F (a.take k) (b.take k) ++ List.replicate (n - k) (0 : Int)).length = n := by rw [List.length_append, hzl, List.length_replicate]; omega
              have hz : (zipRow F (a.take k) (b.take k) ++ List.replicate (n - k) (0 : Int))[k]? = some 0 := by
                rw [List.getElem?_append_right (by omega), hzl, List.getElem?_replicate, if_pos (by omega)]
              have hset : (zipRow F (a.take k) (b.take k) ++ List.replicate (n - k) (0 : Int)).set k (F x y % 1009) = zipRow F (a.take (k + 1)) (b.take (k + 1)) ++ List.replicate (n - (k + 1)) 0 := by
                rw [zipRow_snoc F hx hy, List.set_append_right _ _ (by omega), hzl, Nat.sub_self, show n - k = n - (k + 1) + 1 by omega, List.replicate_succ, List.set_cons_zero, List.append_assoc]
                rfl
              obtain ⟨c2, f2, -, -⟩ := HO.out.cell hz
              have hO2 := HO.out.set_ hll.symm k (F x y % 1009)
              rw [hset] at hO2
              have HO2 := Lib.hid hO2
              obtain ⟨hb0, hb1⟩ := Hbd.out x y hx0 hx1 hy0 hy1
              have hg2 : w.grownBy (wr.setCell ⟨w.heap.size, k, none⟩ (.int .i64 (F x y % 1009))) none := gb_set (p := ⟨w.heap.size, k, none⟩) hg (.inl (Nat.le_refl _)) _
              clear hx hy hzl hll hz hset hO2 HO
              go_wp2_with fail
              refine (Hcall.out x y _ hx0 hx1 hy0 hy1).mono ?_
              rintro e w' ⟨rfl, rfl⟩
              go_wp2_with fail
              go_roundg (n + 1 - (k + 1))
              case measure => omega
              case rel => exact ⟨k + 1, by omega, rfl, by go_num, HO2, hg2⟩
            · obtain rfl : k = n := by omega
              have hO2 : OwnI wr w.heap.size (.slice (some ⟨w.heap.size, 0, none⟩) k k) (zipRow F a b) := by
                have := HO.out
                rw [Nat.sub_self, List.replicate_zero, List.append_nil, List.take_of_length_le (by rw [← Hn.out]; exact Nat.le_refl _), List.take_of_length_le (by rw [← Hm.out]; exact Nat.le_refl _)] at this
                exact this
              clear HO
              go_wp2_with fail
              go_ret2
              exact ⟨_, by rw [Hr.out]; rfl, by rw [Hr.out]; exact hO2, hg⟩
      · have Hr := Lib.hid (bad (by rw [← Hn.out, ← Hm.out, decide_eq_false hab]; simp))
        have Hva := Lib.hid hva
        have Hvb := Lib.hid hvb
        have hb : ((n : Int) != (m : Int)) = true := by rw [bne_iff_ne]; omega
        clear bad hva hvb hab
        rcases hfid with rfl | rfl
        all_goals
          go_enter Tryz.func117, Tryz.ntmps117
          go_wp2_with fail
          refine (rvValid_any _ a _ ha).mono ?_
          rw [Hva.out]
          rintro e w' ⟨rfl, rfl⟩
          go_wp2_with fail
          refine (rvValid_any _ b _ (by assumption)).mono ?_
          rw [Hvb.out]
          rintro e w' ⟨rfl, rfl⟩
          go_wp2_with fail
          go_ret2
          exact ⟨_, by rw [Hr.out]; rfl, by rw [Hr.out]; exact OwnI.nil _ _, gb_refl _ _⟩
    · have hvb' : rowValid b = false := by simpa using hvb
      have Hr := Lib.hid (bad (by rw [hvb']; simp))
      have Hva := Lib.hid hva
      have Hvb := Lib.hid hvb'
      clear bad hva hvb hvb'
      rcases hfid with rfl | rfl
      all_goals
        go_enter Tryz.func117, Tryz.ntmps117
        go_wp2_with fail
        refine (rvValid_any _ a _ ha).mono ?_
        rw [Hva.out]
        rintro e w' ⟨rfl, rfl⟩
        go_wp2_with fail
        refine (rvValid_any _ b _ hb).mono ?_
        rw [Hvb.out]
        rintro e w' ⟨rfl, rfl⟩
        go_wp2_with fail
        go_ret2
        exact ⟨_, by rw [Hr.out]; rfl, by rw [Hr.out]; exact OwnI.nil _ _, gb_refl _ _⟩
  · have hva' : rowValid a = false := by simpa using hva
    have Hr := Lib.hid (bad (by rw [hva']; simp))
    have Hva := Lib.hid hva'
    clear bad hva hva'
    rcases hfid with rfl | rfl
    all_goals
      go_enter Tryz.func117, Tryz.ntmps117
      go_wp2_with fail
      refine (rvValid_any _ a _ ha).mono ?_
      rw [Hva.out]
      rintro e w' ⟨rfl, rfl⟩
      go_wp2_with fail
      go_ret2
      exact ⟨_, by rw [Hr.out]; rfl, by rw [Hr.out]; exact OwnI.nil _ _, gb_refl _ _⟩
theorem implRowAdd_any (va vb : Value) (a b : List Int) (w : World) (ha : RI w va a) (hb : RI w vb b) : Calls Tryz.prog 93 #[va, vb] w (RowOut w (rowAdd a b)) := by
  obtain ⟨A, n, c, rfl⟩ := ha.val
  obtain ⟨B, m, d, rfl⟩ := hb.val
  go_enter Tryz.func93, Tryz.ntmps93
  go_wp2_with fail
  refine (join_any _ _ a b _ (.inl rfl) _ ha hb).mono ?_
  rintro e w1 ⟨v, rfl, ho, hg⟩
  have hf : rowBoth (fOf 118) a b = rowAdd a b := rfl
  rw [hf] at ho ⊢
  obtain ⟨A', n', c', rfl⟩ := ho.ri.val
  clear hf
  go_wp2_with fail
  go_ret2
  exact ⟨_, rfl, ho, hg⟩
theorem implRowTimes_any (va vb : Value) (a b : List Int) (w : World) (ha : RI w va a) (hb : RI w vb b) : Calls Tryz.prog 94 #[va, vb] w (RowOut w (rowTimes a b)) := by
  obtain ⟨A, n, c, rfl⟩ := ha.val
  obtain ⟨B, m, d, rfl⟩ := hb.val
  go_enter Tryz.func94, Tryz.ntmps94
  go_wp2_with fail
  refine (join_any _ _ a b _ (.inr rfl) _ ha hb).mono ?_
  rintro e w1 ⟨v, rfl, ho, hg⟩
  have hf : rowBoth (fOf 119) a b = rowTimes a b := rfl
  rw [hf] at ho ⊢
  obtain ⟨A', n', c', rfl⟩ := ho.ri.val
  clear hf
  go_wp2_with fail
  go_ret2
  exact ⟨_, rfl, ho, hg⟩
end Go.Proofs.YtihobnheficpjaaGreat
namespace Go.Proofs.YtihobnheficpjaaGreat
open Go.RowKit

set_option maxRecDepth 100000 in
set_option maxHeartbeats 1000000 in
theorem pdq_any (g n cap base : Nat) (l : List Int) (w : World) (h : OwnI w base (.slice (some ⟨g, 0, none⟩) n cap) l) (hn : n = l.length) (hl : n ≤ 12) (lim : Int) :
    Calls Tryz.prog 81 #[.slice (some ⟨g, 0, none⟩) n cap, .int .i64 0, .int .i64 n, .int .i64 lim] w (SortOut w base (.slice (some ⟨g, 0, none⟩) n cap) (sortRow l)) := by
  have Hn := Lib.hid hn
  clear hn
  go_enter Tryz.func81, Tryz.ntmps81
  go_wp2_with fail
  refine wp_loop_rounds 1 ?_
  rw [rounds_succ]
  go_wp2_with fail
  refine (insertion_any g n cap base l _ h Hn.out hl _).mono ?_
  rintro e w1 ⟨rfl, ho, hg⟩
  go_wp2_with fail
  exact bodyPost_ret (results_none rfl _ _ _) rfl ⟨rfl, ho, hg⟩
/-- 'bits.Len' of a small number is some number. -/
def SomeNum (w : World) (e : Ending) (w' : World) : Prop := (∃ z : Int, e = .returned (.int .i64 z)) ∧ w = w'
set_option maxRecDepth 100000 in
theorem len64_any (n : Nat) (hn : n ≤ 12) (w : World) : Calls Tryz.prog 108 #[.int .u64 n] w (SomeNum w) := by
  rcases (show n = 0 ∨ n = 1 ∨ n = 2 ∨ n = 3 ∨ n = 4 ∨ n = 5 ∨ n = 6 ∨ n = 7 ∨ n = 8 ∨ n = 9 ∨ n = 10 ∨ n = 11 ∨ n = 12 by omega) with rfl | rfl | rfl | rfl | rfl | rfl | rfl | rfl | rfl | rfl | rfl | rfl | rfl
  all_goals
    go_enter Tryz.func108, Tryz.ntmps108
    go_wp2_with fail
    go_ret
    exact ⟨⟨_, rfl⟩, rfl⟩
theorem bitsLen_any (n : Nat) (hn : n ≤ 12) (w : World) : Calls Tryz.prog 82 #[.int .u64 n] w (SomeNum w) := by
  go_enter Tryz.func82, Tryz.ntmps82
  go_wp2_with fail
  refine (len64_any n hn _).mono ?_
  rintro e w' ⟨⟨z, rfl⟩, rfl⟩
  go_wp2_with fail
  go_ret
  exact ⟨⟨z, rfl⟩, rfl⟩
theorem sortRows_any (g n cap base : Nat) (l : List Int) (w : World) (h : OwnI w base (.slice (some ⟨g, 0, none⟩) n cap) l) (hn : n = l.length) (hl : n ≤ 12) :
    Calls Tryz.prog 131 #[.slice (some ⟨g, 0, none⟩) n cap] w (SortOut w base (.slice (some ⟨g, 0, none⟩) n cap) (sortRow l)) := by
  have Hn := Lib.hid hn
  clear hn
  go_enter Tryz.func131, Tryz.ntmps131
  go_wp2_with fail
  refine (bitsLen_any n hl _).mono ?_
  rintro e w' ⟨⟨z, rfl⟩, rfl⟩
  go_wp2_with fail
  refine (pdq_any g n cap base l _ h Hn.out hl z).mono ?_
  rintro e w1 ⟨rfl, ho, hg⟩
  go_wp2_with fail
  exact bodyPost_ret (results_none rfl _ _ _) rfl ⟨rfl, ho, hg⟩
set_option maxHeartbeats 800000 in
theorem reverse_any (g n cap base : Nat) (l : List Int) (w : World) (h : OwnI w base (.slice (some ⟨g, 0, none⟩) n cap) l) (hn : n = l.length) (hl : n ≤ 1000) :
    Calls Tryz.prog 132 #[.slice (some ⟨g, 0, none⟩) n cap] w (SortOut w base (.slice (some ⟨g, 0, none⟩) n cap) l.reverse) := by
  have Hn := Lib.hid hn
  clear hn
  go_enter Tryz.func132, Tryz.ntmps132
  go_wp2_with fail
  go_loopg [2, 3] (n + 1) (fun mm i j wr => ∃ (k : Nat) (m : List Int), k ≤ n ∧ mm = n + 1 - k ∧ i = .int .i64 k ∧ j = .int .i64 ((n : Int) - 1 - k) ∧ Hid (RevTo l m k) ∧ Hid (OwnI wr base (.slice (some ⟨g, 0, none⟩) n cap) m) ∧ w.grownBy wr (some g))
  case atStart => exact ⟨0, l, Nat.zero_le _, rfl, rfl, by go_num, RevTo.zero l, h, gb_refl _ _⟩
  case round =>
    clear h
    obtain ⟨k, m, hk, rfl, rfl, rfl, HR, HO, hg⟩ := hrel
    have hml : n = m.length := by rw [HR.out.1]; exact Hn.out
    by_cases hlt : (k : Int) < (n : Int) - 1 - k
    · obtain ⟨q, hq⟩ : ∃ q : Nat, q = n - 1 - k := ⟨_, rfl⟩
      have hqi : ((n : Int) - 1 - k) = (q : Int) := by omega
      rw [hqi] at hlt ⊢
      obtain ⟨x, hx⟩ : ∃ x, m[k]? = some x := ⟨_, List.getElem?_eq_getElem (by omega)⟩
      obtain ⟨y, hy⟩ : ∃ y, m[q]? = some y := ⟨_, List.getElem?_eq_getElem (by omega)⟩
      obtain ⟨c0, f0, -, -⟩ := HO.out.cell hx
      obtain ⟨c1, f1, -, -⟩ := HO.out.cell hy
      have hR2 := HR.out.step (by rw [← Hn.out]; omega) hx (by rw [← Hn.out, ← hq]; exact hy)
      rw [← Hn.out, ← hq] at hR2
      have HR2 := Lib.hid hR2
      have HO3 := Lib.hid ((HO.out.set_ hml k y).set_ (by rw [List.length_set]; exact hml) q x)
      have hg3 : w.grownBy ((wr.setCell ⟨g, k, none⟩ (.int .i64 y)).setCell ⟨g, q, none⟩ (.int .i64 x)) (some g) := gb_set (p := ⟨g, q, none⟩) (gb_set (p := ⟨g, k, none⟩) hg (.inr rfl) _) (.inr rfl) _
      have hkq : k < q := by omega
      have hqn : q < n := by omega
      have Hq := Lib.hid hqi
      clear hR2 hq hqi hx hy hml HR HO hg
      go_wp2_with fail
      go_region
      all_goals
        go_wp2_with fail
        go_roundg (n + 1 - (k + 1))
        case measure => omega
        case rel => exact ⟨k + 1, _, by omega, rfl, by go_num, by rw [← Hq.out]; go_num, HR2, HO3, gb_drew hg3⟩
    · have he := HR.out.done (by rw [← Hn.out]; omega)
      have HO2 := HO.out
      rw [he] at HO2
      have HO2 := Lib.hid HO2
      clear he hml HO HR
      go_wp2_with fail
      exact bodyPost_ret (results_none rfl _ _ _) rfl ⟨rfl, HO2.out, hg⟩
end Go.Proofs.YtihobnheficpjaaGreat
namespace Go.Proofs.YtihobnheficpjaaGreat
open Go.RowKit

theorem sumsFrom_append (s : Int) (l : List Int) (x : Int) : sumsFrom s (l ++ [x]) = sumsFrom s l ++ [((sumsFrom s l).getLast?.getD s + x) % 1009] := by
  induction l generalizing s with
  | nil => rfl
  | cons y ys ih =>
    rw [List.cons_append, sumsFrom, ih, sumsFrom]
    cases h : sumsFrom ((s + y) % 1009) ys with
    | nil => simp
    | cons z zs =>
      have hq : ∃ q, (z :: zs).getLast? = some q := ⟨_, List.getLast?_eq_some_getLast (by simp)⟩
      obtain ⟨q, hq⟩ := hq
      rw [hq, List.getLast?_cons_cons, hq]
      rfl
theorem sums_any (v : Value) (l : List Int) (w : World) (h : RI w v l) (hv : rowValid l = true) : Calls Tryz.prog 120 #[v] w (IntsOut w (sumsFrom 0 l)) := by
  obtain ⟨A, n, c, rfl, hc, hn⟩ := h.form'
  have hn6 : n ≤ 6 := by rw [hn]; exact rowValid_len hv
  have Hn := Lib.hid hn
  have Hv := Lib.hid hv
  clear hn hv
  obtain ⟨i0, hi, hz0, hz1, hz2⟩ := info_parts info3
  go_enter Tryz.func120, Tryz.ntmps120
  go_wp2_with (at_make; go_must (refine wpList_make_full _ rfl _ _ 143 rfl w.heap.size 3 i0 _ 1 Tryz.underlying143 hi hz0 hz1 _ _ _ _ n rfl rfl rfl rfl (by rw [hz2]; omega) (by unfold maxLen; omega) (Nat.le_refl _) ?_))
  intro w0 hown0 hg0
  have hO0 : OwnI w0 w.heap.size (.slice (some ⟨w.heap.size, 0, none⟩) n n) (List.replicate n 0) := by
    refine OwnI.made ?_
    have e : n * 1 = n := Nat.mul_one n
    first | exact hown0 | (rw [e] at hown0; exact hown0) | (simp at hown0; exact hown0)
  clear hown0
  go_wp2_with fail
  go_loopg [4, 12] (n + 1) (fun mm s i wr => ∃ (k : Nat) (z : Int), k ≤ n ∧ mm = n + 1 - k ∧ i = .int .i64 k ∧ s = .int .i64 z ∧ 0 ≤ z ∧ z ≤ 1008 ∧ Hid (z = (sumsFrom 0 (l.take k)).getLast?.getD 0) ∧ Hid (OwnI wr w.heap.size (.slice (some ⟨w.heap.size, 0, none⟩) n n) (sumsFrom 0 (l.take k) ++ List.replicate (n - k) 0)) ∧ w.grownBy wr none)
  case atStart => exact ⟨0, 0, Nat.zero_le _, rfl, rfl, rfl, by omega, by omega, rfl, hO0, hg0⟩
  case round =>
    clear hO0 hg0
    obtain ⟨k, z, hk, rfl, rfl, rfl, hz0', hz1', Hz, HO, hg⟩ := hrel
    by_cases hlt : k < n
    · obtain ⟨ga, oa, x, rfl, hx, c0⟩ := (h.new hg).at_ hlt
      obtain ⟨hx0, hx1⟩ := rowValid_mem Hv.out (List.mem_of_getElem? hx)
      obtain ⟨hk', hx'⟩ := List.getElem?_eq_some_iff.1 hx
      have hsl : (sumsFrom 0 (l.take k)).length = k := by rw [sumsFrom_len, List.length_take]; omega
      have hsn : sumsFrom 0 (l.take (k + 1)) = sumsFrom 0 (l.take k) ++ [(z + x) % 1009] := by
        rw [List.take_succ_eq_append_getElem hk', hx', sumsFrom_append, ← Hz.out]
      have hll : (sumsFrom 0 (l.take k) ++ List.replicate (n - k) (0 : Int)).length = n := by rw [List.length_append, hsl, List.length_replicate]; omega
      have hz : (sumsFrom 0 (l.take k) ++ List.replicate (n - k) (0 : Int))[k]? = some 0 := by
        rw [List.getElem?_append_right (by omega), hsl, List.getElem?_replicate, if_pos (by omega)]
      have hset : (sumsFrom 0 (l.take k) ++ List.replicate (n - k) (0 : Int)).set k ((z + x) % 1009) = sumsFrom 0 (l.take (k + 1)) ++ List.replicate (n - (k + 1)) 0 := by
        rw [hsn, List.set_append_right _ _ (by omega), hsl, Nat.sub_self, show n - k = n - (k + 1) + 1 by omega, List.replicate_succ, List.set_cons_zero, List.append_assoc]
        rfl
      have Hz2 : Hid ((z + x) % 1009 = (sumsFrom 0 (l.take (k + 1))).getLast?.getD 0) := by
        show _ = _
        rw [hsn, List.getLast?_append]
        simp
      obtain ⟨c2, f2, -, -⟩ := HO.out.cell hz
      have hO2 := HO.out.set_ hll.symm k ((z + x) % 1009)
      rw [hset] at hO2
      have HO2 := Lib.hid hO2
      have hg2 : w.grownBy (wr.setCell ⟨w.heap.size, k, none⟩ (.int .i64 ((z + x) % 1009))) none := gb_set (p := ⟨w.heap.size, k, none⟩) hg (.inl (Nat.le_refl _)) _
      clear hx hk' hx' hsl hsn hll hz hset hO2 HO Hz
      go_wp2_with fail
      go_roundg (n + 1 - (k + 1))
      case measure => omega
      case rel => exact ⟨k + 1, _, by omega, rfl, by go_num, rfl, by omega, by omega, Hz2, HO2, hg2⟩
    · obtain rfl : k = n := by omega
      have hO2 : OwnI wr w.heap.size (.slice (some ⟨w.heap.size, 0, none⟩) k k) (sumsFrom 0 l) := by
        have := HO.out
        rw [Nat.sub_self, List.replicate_zero, List.append_nil, List.take_of_length_le (by rw [← Hn.out]; exact Nat.le_refl _)] at this
        exact this
      clear HO Hz
      go_wp2_with fail
      go_ret
      exact ⟨_, rfl, hO2, hg⟩
/-- Nothing to sort. -/
def NilOut (w : World) (e : Ending) (w' : World) : Prop := e = .returned (.tuple #[]) ∧ w = w'
theorem insertion0_any (w : World) : Calls Tryz.prog 98 #[.slice none 0 0, .int .i64 0, .int .i64 0] w (NilOut w) := by
  go_enter Tryz.func98, Tryz.ntmps98
  go_wp2_with fail
  refine wp_loop_rounds 1 ?_
  rw [rounds_succ]
  go_wp2_with fail
  exact bodyPost_ret (results_none rfl _ _ _) rfl ⟨rfl, rfl⟩
set_option maxRecDepth 100000 in
theorem pdq0_any (lim : Int) (w : World) : Calls Tryz.prog 81 #[.slice none 0 0, .int .i64 0, .int .i64 0, .int .i64 lim] w (NilOut w) := by
  go_enter Tryz.func81, Tryz.ntmps81
  go_wp2_with fail
  refine wp_loop_rounds 1 ?_
  rw [rounds_succ]
  go_wp2_with fail
  refine (insertion0_any _).mono ?_
  rintro e w1 ⟨rfl, rfl⟩
  go_wp2_with fail
  exact bodyPost_ret (results_none rfl _ _ _) rfl ⟨rfl, rfl⟩
theorem sortRows0_any (w : World) : Calls Tryz.prog 131 #[.slice none 0 0] w (NilOut w) := by
  go_enter Tryz.func131, Tryz.ntmps131
  go_wp2_with fail
  refine (bitsLen_any 0 (by omega) _).mono ?_
  rintro e w' ⟨⟨z, rfl⟩, rfl⟩
  go_wp2_with fail
  refine (pdq0_any z _).mono ?_
  rintro e w1 ⟨rfl, rfl⟩
  go_wp2_with fail
  exact bodyPost_ret (results_none rfl _ _ _) rfl ⟨rfl, rfl⟩
theorem sorted_any (v : Value) (l : List Int) (w : World) (h : RI w v l) (hl : l.length ≤ 12) : Calls Tryz.prog 121 #[v] w (IntsOut w (sortRow l)) := by
  obtain ⟨A, n, c, rfl⟩ := h.val
  go_enter Tryz.func121, Tryz.ntmps121
  go_wp2_with (at_builtin; go_must (refine wp_copy_ints _ (.tmp 4) 143 Tryz.underlying143 rfl rfl h (by omega) (Nat.le_refl _) rfl rfl ?_))
  intro v' w1 ho hg
  rcases ho.2 with ⟨rfl, h0⟩ | ⟨g, cap, cur, rfl, -⟩
  · obtain rfl : l = [] := List.eq_nil_of_length_eq_zero h0
    clear h0 hl
    go_wp2_with fail
    refine (sortRows0_any _).mono ?_
    rintro e w2 ⟨rfl, rfl⟩
    go_wp2_with fail
    go_ret
    exact ⟨_, rfl, ho, hg⟩
  · obtain ⟨m, hm⟩ : ∃ m, m = l.length := ⟨_, rfl⟩
    rw [← hm] at ho hl ⊢
    have Hm := Lib.hid hm
    clear hm
    go_wp2_with fail
    refine (sortRows_any g m cap _ l _ ho Hm.out hl).mono ?_
    rintro e w2 ⟨rfl, ho2, hg2⟩
    have hg3 := ho.gb hg hg2 (Nat.le_refl _)
    go_wp2_with fail
    go_ret
    exact ⟨_, rfl, ho2, hg3⟩
theorem reverse0_any (w : World) : Calls Tryz.prog 132 #[.slice none 0 0] w (NilOut w) := by
  go_enter Tryz.func132, Tryz.ntmps132
  go_wp2_with fail
  refine wp_loop_rounds 1 ?_
  rw [rounds_succ]
  go_wp2_with fail
  exact bodyPost_ret (results_none rfl _ _ _) rfl ⟨rfl, rfl⟩
theorem turned_any (v : Value) (l : List Int) (w : World) (h : RI w v l) (hl : l.length ≤ 12) : Calls Tryz.prog 122 #[v] w (IntsOut w l.reverse) := by
  obtain ⟨A, n, c, rfl⟩ := h.val
  go_enter Tryz.func122, Tryz.ntmps122
  go_wp2_with (at_builtin; go_must (refine wp_copy_ints _ (.tmp 4) 143 Tryz.underlying143 rfl rfl h (by omega) (Nat.le_refl _) rfl rfl ?_))
  intro v' w1 ho hg
  rcases ho.2 with ⟨rfl, h0⟩ | ⟨g, cap, cur, rfl, -⟩
  · obtain rfl : l = [] := List.eq_nil_of_length_eq_zero h0
    clear h0 hl
    go_wp2_with fail
    refine (reverse0_any _).mono ?_
    rintro e w2 ⟨rfl, rfl⟩
    go_wp2_with fail
    go_ret
    exact ⟨_, rfl, ho, hg⟩
  · obtain ⟨m, hm⟩ : ∃ m, m = l.length := ⟨_, rfl⟩
    rw [← hm] at ho hl ⊢
    have Hm := Lib.hid hm
    clear hm
    go_wp2_with fail
    refine (reverse_any g m cap _ l _ ho Hm.out (by omega)).mono ?_
    rintro e w2 ⟨rfl, ho2, hg2⟩
    have hg3 := ho.gb hg hg2 (Nat.le_refl _)
    go_wp2_with fail
    go_ret
    exact ⟨_, rfl, ho2, hg3⟩
theorem implRowSums_any (v : Value) (l : List Int) (w : World) (h : RI w v l) : Calls Tryz.prog 95 #[v] w (RowOut w (rowSums l)) := by
  obtain ⟨A, n, c, rfl⟩ := h.val
  by_cases hv : rowValid l = true
  · have Hr : Hid (rowSums l = some (sumsFrom 0 l)) := by show _ = _; unfold rowSums; rw [if_pos hv]
    have Hv := Lib.hid hv
    clear hv
    go_enter Tryz.func95, Tryz.ntmps95
    go_wp2_with fail
    refine (rvValid_any _ l _ h).mono ?_
    rw [Hv.out]
    rintro e w1 ⟨rfl, rfl⟩
    go_wp2_with fail
    refine (sums_any _ l _ h Hv.out).mono ?_
    rintro e w2 ⟨v2, rfl, ho, hg⟩
    obtain ⟨A', n', c', rfl⟩ := ho.ri.val
    go_wp2_with fail
    go_ret2
    exact ⟨_, by rw [Hr.out]; rfl, by rw [Hr.out]; exact ho, hg⟩
  · have hv' : rowValid l = false := by simpa using hv
    have Hr : Hid (rowSums l = none) := by show _ = _; unfold rowSums; rw [if_neg hv]
    have Hv := Lib.hid hv'
    clear hv hv'
    go_enter Tryz.func95, Tryz.ntmps95
    go_wp2_with fail
    refine (rvValid_any _ l _ h).mono ?_
    rw [Hv.out]
    rintro e w1 ⟨rfl, rfl⟩
    go_wp2_with fail
    go_ret2
    exact ⟨_, by rw [Hr.out]; rfl, by rw [Hr.out]; exact OwnI.nil _ _, gb_refl _ _⟩
theorem implRowSort_any (v : Value) (l : List Int) (w : World) (h : RI w v l) : Calls Tryz.prog 96 #[v] w (RowOut w (rowSort l)) := by
  obtain ⟨A, n, c, rfl⟩ := h.val
  by_cases hv : rowValid l = true
  · have Hr : Hid (rowSort l = some (sortRow l)) := by show _ = _; unfold rowSort; rw [if_pos hv]
    have Hv := Lib.hid hv
    clear hv
    go_enter Tryz.func96, Tryz.ntmps96
    go_wp2_with fail
    refine (rvValid_any _ l _ h).mono ?_
    rw [Hv.out]
    rintro e w1 ⟨rfl, rfl⟩
    go_wp2_with fail
    refine (sorted_any _ l _ h (by have := rowValid_len Hv.out; omega)).mono ?_
    rintro e w2 ⟨v2, rfl, ho, hg⟩
    obtain ⟨A', n', c', rfl⟩ := ho.ri.val
    go_wp2_with fail
    go_ret2
    exact ⟨_, by rw [Hr.out]; rfl, by rw [Hr.out]; exact ho, hg⟩
  · have hv' : rowValid l = false := by simpa using hv
    have Hr : Hid (rowSort l = none) := by show _ = _; unfold rowSort; rw [if_neg hv]
    have Hv := Lib.hid hv'
    clear hv hv'
    go_enter Tryz.func96, Tryz.ntmps96
    go_wp2_with fail
    refine (rvValid_any _ l _ h).mono ?_
    rw [Hv.out]
    rintro e w1 ⟨rfl, rfl⟩
    go_wp2_with fail
    go_ret2
    exact ⟨_, by rw [Hr.out]; rfl, by rw [Hr.out]; exact OwnI.nil _ _, gb_refl _ _⟩
theorem implRowTurn_any (v : Value) (l : List Int) (w : World) (h : RI w v l) : Calls Tryz.prog 97 #[v] w (RowOut w (rowTurn l)) := by
  obtain ⟨A, n, c, rfl⟩ := h.val
  by_cases hv : rowValid l = true
  · have Hr : Hid (rowTurn l = some (l.reverse)) := by show _ = _; unfold rowTurn; rw [if_pos hv]
    have Hv := Lib.hid hv
    clear hv
    go_enter Tryz.func97, Tryz.ntmps97
    go_wp2_with fail
    refine (rvValid_any _ l _ h).mono ?_
    rw [Hv.out]
    rintro e w1 ⟨rfl, rfl⟩
    go_wp2_with fail
    refine (turned_any _ l _ h (by have := rowValid_len Hv.out; omega)).mono ?_
    rintro e w2 ⟨v2, rfl, ho, hg⟩
    obtain ⟨A', n', c', rfl⟩ := ho.ri.val
    go_wp2_with fail
    go_ret2
    exact ⟨_, by rw [Hr.out]; rfl, by rw [Hr.out]; exact ho, hg⟩
  · have hv' : rowValid l = false := by simpa using hv
    have Hr : Hid (rowTurn l = none) := by show _ = _; unfold rowTurn; rw [if_neg hv]
    have Hv := Lib.hid hv'
    clear hv hv'
    go_enter Tryz.func97, Tryz.ntmps97
    go_wp2_with fail
    refine (rvValid_any _ l _ h).mono ?_
    rw [Hv.out]
    rintro e w1 ⟨rfl, rfl⟩
    go_wp2_with fail
    go_ret2
    exact ⟨_, by rw [Hr.out]; rfl, by rw [Hr.out]; exact OwnI.nil _ _, gb_refl _ _⟩
end Go.Proofs.YtihobnheficpjaaGreat
namespace Go.Proofs.YtihobnheficpjaaGreat
open Go.RowKit

theorem step_push_int_d {ops : Array Oper} {o : Oper} {a : Act} {K : Act → World → Prop} {Q : Exit → Act → World → Prop} {E : Prop} {w : World} {u : Int}
    (s x : Operand) (hgd : o.guard = none) (ho : o.op = .call { callee := .builtin .append, args := #[s, x], argTypes := #[25, 25] })
    {base : Nat} {v : Value} {l : List Int} (hown : OwnI w base v l) (hn : l.length ≤ 1000000000) (hbase : base ≤ w.heap.size)
    (hs : a.eval s = v) (hx : a.eval x = .slice (some ⟨w.heap.size, 0, none⟩) 1 1)
    (h : ∀ v' w', OwnI w' base v' (l ++ [u]) → w.grownBy w' v.ownBlock → K (a.put o.dst v') w') :
    if Region.wanted o (yielded ops a.tmps) = true then Oper.wp Tryz.prog o a (w.alloc (.cells #[.int .i64 u] 3)).drew K Q else E :=
  step_push_int (w := w.drew) s x hgd ho hown hn hbase hs hx fun v' w' h1 h2 => h v' w' h1 ⟨h2.os, h2.tape, h2.output, h2.size, h2.block⟩
theorem l1Both_b (va vb : Value) (a b : List Int) (w : World) (ha : RI w va a) (hb : RI w vb b) {c : Bool} (hc : (rowValid a && rowValid b && decide (a.length = b.length)) = c) :
    Calls Tryz.prog 129 #[va, vb] w fun e w' => e = .returned (.bool c) ∧ w = w' := by
  obtain ⟨A, n, d, rfl, _, hn⟩ := ha.form'
  obtain ⟨B, m, d', rfl, _, hm⟩ := hb.form'
  rw [← hn, ← hm] at hc
  have Hc := Lib.hid hc
  clear hn hm hc
  by_cases hva : rowValid a = true
  · have Hva := Lib.hid hva
    by_cases hvb : rowValid b = true
    · have Hvb := Lib.hid hvb
      have Hr : Hid (c = ((n : Int) == (m : Int))) := by
        show _ = _
        rw [← Hc.out, hva, hvb, Bool.true_and, Bool.true_and, Bool.eq_iff_iff]
        simp
        omega
      clear hva hvb
      go_enter Tryz.func129, Tryz.ntmps129
      go_wp2_with fail
      refine (specRowValid_b _ a _ ha Hva.out).mono ?_
      rintro e w' ⟨rfl, rfl⟩
      go_wp2_with fail
      refine (specRowValid_b _ b _ hb Hvb.out).mono ?_
      rintro e w' ⟨rfl, rfl⟩
      go_wp2_with fail
      go_ret
      exact ⟨by rw [Hr.out]; rfl, rfl⟩
    · have hvb' : rowValid b = false := by simpa using hvb
      have Hvb := Lib.hid hvb'
      have Hr : Hid (c = false) := by
        show _ = _
        rw [← Hc.out, hvb']
        simp
      clear hva hvb hvb'
      go_enter Tryz.func129, Tryz.ntmps129
      go_wp2_with fail
      refine (specRowValid_b _ a _ ha Hva.out).mono ?_
      rintro e w' ⟨rfl, rfl⟩
      go_wp2_with fail
      refine (specRowValid_b _ b _ hb Hvb.out).mono ?_
      rintro e w' ⟨rfl, rfl⟩
      go_wp2_with fail
      go_ret
      exact ⟨by rw [Hr.out]; rfl, rfl⟩
  · have hva' : rowValid a = false := by simpa using hva
    have Hva := Lib.hid hva'
    have Hr : Hid (c = false) := by
      show _ = _
      rw [← Hc.out, hva']
      simp
    clear hva hva'
    go_enter Tryz.func129, Tryz.ntmps129
    go_wp2_with fail
    refine (specRowValid_b _ a _ ha Hva.out).mono ?_
    rintro e w' ⟨rfl, rfl⟩
    go_wp2_with fail
    go_ret
    exact ⟨by rw [Hr.out]; rfl, rfl⟩
set_option maxHeartbeats 800000 in
theorem specRowAdd_any (va vb : Value) (a b : List Int) (w : World) (ha : RI w va a) (hb : RI w vb b) : Calls Tryz.prog 110 #[va, vb] w (RowOut w (rowAdd a b)) := by
  obtain ⟨A, n, c, rfl, hc, hn⟩ := ha.form'
  obtain ⟨B, m, d, rfl, hd, hm⟩ := hb.form'
  have Hn := Lib.hid hn
  have Hm := Lib.hid hm
  clear hn hm
  by_cases hok : (rowValid a && rowValid b && decide (a.length = b.length)) = true
  · have Hr : Hid (rowAdd a b = some (zipRow addI a b)) := by show _ = _; unfold rowAdd rowBoth; rw [if_pos hok]
    have Hok := Lib.hid hok
    simp only [Bool.and_eq_true, decide_eq_true_eq] at hok
    have Hva := Lib.hid hok.1.1
    have Hvb := Lib.hid hok.1.2
    have hn6 : n ≤ 6 := by rw [Hn.out]; exact rowValid_len hok.1.1
    have hmn : m = n := by rw [Hn.out, Hm.out]; exact hok.2.symm
    subst hmn
    clear hok
    go_enter Tryz.func110, Tryz.ntmps110
    go_wp2_with fail
    refine (l1Both_b _ _ a b _ (ha.alloc _) (hb.alloc _) Hok.out).mono ?_
    rintro e w' ⟨rfl, rfl⟩
    have ho0 := OwnI.empty w (Nat.le_refl w.heap.size)
    have hg0 := World.grownBy_alloc w (.cells #[] 3) none
    go_wp2_with fail
    go_loopg [6, 7] (m + 1) (fun mm o i wr => ∃ k : Nat, k ≤ m ∧ mm = m + 1 - k ∧ i = .int .i64 k ∧ OwnI wr w.heap.size o (zipRow addI (a.take k) (b.take k)) ∧ w.grownBy wr none)
    case atStart => exact ⟨0, Nat.zero_le _, rfl, rfl, ho0, hg0⟩
    case round =>
      clear ho0 hg0
      obtain ⟨k, hk, rfl, rfl, ho, hg⟩ := hrel
      obtain ⟨Ao, no, co, rfl⟩ := ho.ri.val
      by_cases hlt : k < m
      · obtain ⟨ga, oa, x, rfl, hx, c0⟩ := (ha.new hg).at_ hlt
        obtain ⟨gb, ob, y, rfl, hy, c1⟩ := (hb.new hg).at_ hlt
        obtain ⟨hx0, hx1⟩ := rowValid_mem Hva.out (List.mem_of_getElem? hx)
        obtain ⟨hy0, hy1⟩ := rowValid_mem Hvb.out (List.mem_of_getElem? hy)
        have Hz := Lib.hid (zipRow_snoc addI hx hy)
        have hzl := zipRow_take_len addI (a := a) (b := b) (k := k) (by rw [← Hn.out]; omega) (by rw [← Hm.out]; omega)
        have hl : (zipRow addI (a.take k) (b.take k)).length ≤ 10 := by omega
        obtain ⟨p, hp⟩ : ∃ p, p = x + y := ⟨_, rfl⟩
        have hpb : 0 ≤ p ∧ p ≤ 1016064 := by
          rw [hp]
          omega
        obtain ⟨hp0, hp1⟩ := hpb
        have e1 : IntKind.i64.wrap (x + y) = p := by rw [← hp]; exact IntWalk.i64_in _ (by omega)
        have e2 : p.tmod 1009 = p % 1009 := Int.tmod_eq_emod_of_nonneg hp0
        have e3 : IntKind.i64.wrap (p % 1009) = p % 1009 := IntWalk.i64_in _ (by omega)
        have Hp := Lib.hid hp
        clear hx hy hzl hp
        go_wp2_with fail
        go_region_law (refine step_push_int_d (u := p % 1009) (.tmp 20) (.tmp 31) rfl rfl (by exact ho) (by omega) (by exact hg.size) rfl rfl ?_; intro v' w4 hown4 hg4)
        all_goals
          have hz2 : zipRow addI (a.take (k + 1)) (b.take (k + 1)) = zipRow addI (a.take k) (b.take k) ++ [p % 1009] := by
            rw [Hz.out, Hp.out]
            rfl
          rw [← hz2] at hown4
          have hg5 := ho.gb hg (by assumption) (Nat.le_refl _)
          clear e1 e2 e3 hz2
          go_wp2_with fail
          go_roundg (m + 1 - (k + 1))
          case measure => omega
          case rel => exact ⟨k + 1, by omega, rfl, by go_num, hown4, hg5⟩
      · obtain rfl : k = m := by omega
        have hO2 : OwnI wr w.heap.size (.slice Ao no co) (zipRow addI a b) := by
          have := ho
          rw [List.take_of_length_le (by rw [← Hn.out]; exact Nat.le_refl _), List.take_of_length_le (by rw [← Hm.out]; exact Nat.le_refl _)] at this
          exact this
        clear ho
        go_wp2_with fail
        go_ret2
        exact ⟨_, by rw [Hr.out]; rfl, by rw [Hr.out]; exact hO2, hg⟩
  · have hok' : (rowValid a && rowValid b && decide (a.length = b.length)) = false := by simpa using hok
    have Hr : Hid (rowAdd a b = none) := by show _ = _; unfold rowAdd rowBoth; rw [if_neg hok]
    have Hok := Lib.hid hok'
    clear hok hok'
    go_enter Tryz.func110, Tryz.ntmps110
    go_wp2_with fail
    refine (l1Both_b _ _ a b _ (ha.alloc _) (hb.alloc _) Hok.out).mono ?_
    rintro e w' ⟨rfl, rfl⟩
    go_wp2_with fail
    go_ret2
    exact ⟨_, by rw [Hr.out]; rfl, by rw [Hr.out]; exact OwnI.empty w (Nat.le_refl _), World.grownBy_alloc w _ none⟩
set_option maxHeartbeats 800000 in
theorem specRowTimes_any (va vb : Value) (a b : List Int) (w : World) (ha : RI w va a) (hb : RI w vb b) : Calls Tryz.prog 111 #[va, vb] w (RowOut w (rowTimes a b)) := by
  obtain ⟨A, n, c, rfl, hc, hn⟩ := ha.form'
  obtain ⟨B, m, d, rfl, hd, hm⟩ := hb.form'
  have Hn := Lib.hid hn
  have Hm := Lib.hid hm
  clear hn hm
  by_cases hok : (rowValid a && rowValid b && decide (a.length = b.length)) = true
  · have Hr : Hid (rowTimes a b = some (zipRow mulI a b)) := by show _ = _; unfold rowTimes rowBoth; rw [if_pos hok]
    have Hok := Lib.hid hok
    simp only [Bool.and_eq_true, decide_eq_true_eq] at hok
    have Hva := Lib.hid hok.1.1
    have Hvb := Lib.hid hok.1.2
    have hn6 : n ≤ 6 := by rw [Hn.out]; exact rowValid_len hok.1.1
    have hmn : m = n := by rw [Hn.out, Hm.out]; exact hok.2.symm
    subst hmn
    clear hok
    go_enter Tryz.func111, Tryz.ntmps111
    go_wp2_with fail
    refine (l1Both_b _ _ a b _ (ha.alloc _) (hb.alloc _) Hok.out).mono ?_
    rintro e w' ⟨rfl, rfl⟩
    have ho0 := OwnI.empty w (Nat.le_refl w.heap.size)
    have hg0 := World.grownBy_alloc w (.cells #[] 3) none
    go_wp2_with fail
    go_loopg [6, 7] (m + 1) (fun mm o i wr => ∃ k : Nat, k ≤ m ∧ mm = m + 1 - k ∧ i = .int .i64 k ∧ OwnI wr w.heap.size o (zipRow mulI (a.take k) (b.take k)) ∧ w.grownBy wr none)
    case atStart => exact ⟨0, Nat.zero_le _, rfl, rfl, ho0, hg0⟩
    case round =>
      clear ho0 hg0
      obtain ⟨k, hk, rfl, rfl, ho, hg⟩ := hrel
      obtain ⟨Ao, no, co, rfl⟩ := ho.ri.val
      by_cases hlt : k < m
      · obtain ⟨ga, oa, x, rfl, hx, c0⟩ := (ha.new hg).at_ hlt
        obtain ⟨gb, ob, y, rfl, hy, c1⟩ := (hb.new hg).at_ hlt
        obtain ⟨hx0, hx1⟩ := rowValid_mem Hva.out (List.mem_of_getElem? hx)
        obtain ⟨hy0, hy1⟩ := rowValid_mem Hvb.out (List.mem_of_getElem? hy)
        have Hz := Lib.hid (zipRow_snoc mulI hx hy)
        have hzl := zipRow_take_len mulI (a := a) (b := b) (k := k) (by rw [← Hn.out]; omega) (by rw [← Hm.out]; omega)
        have hl : (zipRow mulI (a.take k) (b.take k)).length ≤ 10 := by omega
        obtain ⟨p, hp⟩ : ∃ p, p = x * y := ⟨_, rfl⟩
        have hpb : 0 ≤ p ∧ p ≤ 1016064 := by
          rw [hp]
          refine ⟨Int.mul_nonneg hx0 hy0, ?_⟩
          have := Int.mul_le_mul hx1 hy1 hy0 (by omega)
          omega
        obtain ⟨hp0, hp1⟩ := hpb
        have e1 : IntKind.i64.wrap (x * y) = p := by rw [← hp]; exact IntWalk.i64_in _ (by omega)
        have e2 : p.tmod 1009 = p % 1009 := Int.tmod_eq_emod_of_nonneg hp0
        have e3 : IntKind.i64.wrap (p % 1009) = p % 1009 := IntWalk.i64_in _ (by omega)
        have Hp := Lib.hid hp
        clear hx hy hzl hp
        go_wp2_with fail
        go_region_law (refine step_push_int_d (u := p % 1009) (.tmp 20) (.tmp 31) rfl rfl (by exact ho) (by omega) (by exact hg.size) rfl rfl ?_; intro v' w4 hown4 hg4)
        all_goals
          have hz2 : zipRow mulI (a.take (k + 1)) (b.take (k + 1)) = zipRow mulI (a.take k) (b.take k) ++ [p % 1009] := by
            rw [Hz.out, Hp.out]
            rfl
          rw [← hz2] at hown4
          have hg5 := ho.gb hg (by assumption) (Nat.le_refl _)
          clear e1 e2 e3 hz2
          go_wp2_with fail
          go_roundg (m + 1 - (k + 1))
          case measure => omega
          case rel => exact ⟨k + 1, by omega, rfl, by go_num, hown4, hg5⟩
      · obtain rfl : k = m := by omega
        have hO2 : OwnI wr w.heap.size (.slice Ao no co) (zipRow mulI a b) := by
          have := ho
          rw [List.take_of_length_le (by rw [← Hn.out]; exact Nat.le_refl _), List.take_of_length_le (by rw [← Hm.out]; exact Nat.le_refl _)] at this
          exact this
        clear ho
        go_wp2_with fail
        go_ret2
        exact ⟨_, by rw [Hr.out]; rfl, by rw [Hr.out]; exact hO2, hg⟩
  · have hok' : (rowValid a && rowValid b && decide (a.length = b.length)) = false := by simpa using hok
    have Hr : Hid (rowTimes a b = none) := by show _ = _; unfold rowTimes rowBoth; rw [if_neg hok]
    have Hok := Lib.hid hok'
    clear hok hok'
    go_enter Tryz.func111, Tryz.ntmps111
    go_wp2_with fail
    refine (l1Both_b _ _ a b _ (ha.alloc _) (hb.alloc _) Hok.out).mono ?_
    rintro e w' ⟨rfl, rfl⟩
    go_wp2_with fail
    go_ret2
    exact ⟨_, by rw [Hr.out]; rfl, by rw [Hr.out]; exact OwnI.empty w (Nat.le_refl _), World.grownBy_alloc w _ none⟩
end Go.Proofs.YtihobnheficpjaaGreat
namespace Go.Proofs.YtihobnheficpjaaGreat
open Go.RowKit

theorem specRowSums_any (v : Value) (l : List Int) (w : World) (h : RI w v l) : Calls Tryz.prog 112 #[v] w (RowOut w (rowSums l)) := by
  obtain ⟨A, n, c, rfl, hc, hn⟩ := h.form'
  have Hn := Lib.hid hn
  clear hn
  by_cases hok : rowValid l = true
  · have Hr : Hid (rowSums l = some (sumsFrom 0 l)) := by show _ = _; unfold rowSums; rw [if_pos hok]
    have Hok := Lib.hid hok
    have hn6 : n ≤ 6 := by rw [Hn.out]; exact rowValid_len hok
    clear hok
    go_enter Tryz.func112, Tryz.ntmps112
    go_wp2_with fail
    refine (specRowValid_b _ l _ (h.alloc _) Hok.out).mono ?_
    rintro e w' ⟨rfl, rfl⟩
    have ho0 := OwnI.empty w (Nat.le_refl w.heap.size)
    have hg0 := World.grownBy_alloc w (.cells #[] 3) none
    go_wp2_with fail
    go_loopg [4, 5, 6] (n + 1) (fun mm o s i wr => ∃ (k : Nat) (z : Int), k ≤ n ∧ mm = n + 1 - k ∧ i = .int .i64 k ∧ s = .int .i64 z ∧ 0 ≤ z ∧ z ≤ 1008 ∧ Hid (z = (sumsFrom 0 (l.take k)).getLast?.getD 0) ∧ OwnI wr w.heap.size o (sumsFrom 0 (l.take k)) ∧ w.grownBy wr none)
    case atStart => exact ⟨0, 0, Nat.zero_le _, rfl, rfl, rfl, by omega, by omega, rfl, ho0, hg0⟩
    case round =>
      clear ho0 hg0
      obtain ⟨k, z, hk, rfl, rfl, rfl, hz0, hz1, Hz, ho, hg⟩ := hrel
      obtain ⟨Ao, no, co, rfl⟩ := ho.ri.val
      by_cases hlt : k < n
      · obtain ⟨ga, oa, x, rfl, hx, c0⟩ := (h.new hg).at_ hlt
        obtain ⟨hx0, hx1⟩ := rowValid_mem Hok.out (List.mem_of_getElem? hx)
        obtain ⟨hk', hx'⟩ := List.getElem?_eq_some_iff.1 hx
        have hsn : Hid (sumsFrom 0 (l.take (k + 1)) = sumsFrom 0 (l.take k) ++ [(z + x) % 1009]) := by
          show _ = _
          rw [List.take_succ_eq_append_getElem hk', hx', sumsFrom_append, ← Hz.out]
        have hl : (sumsFrom 0 (l.take k)).length ≤ 10 := by rw [sumsFrom_len, List.length_take]; omega
        have Hz2 : Hid ((z + x) % 1009 = (sumsFrom 0 (l.take (k + 1))).getLast?.getD 0) := by
          show _ = _
          rw [hsn.out, List.getLast?_append]
          simp
        clear hx hk' hx' Hz
        go_wp2_with (at_builtin; go_must (refine wp_push_int (.tmp 25) (.tmp 27) rfl rfl ho (by omega) hg.size rfl rfl ?_))
        intro v' w4 hown4 hg4
        have hg5 := ho.gb hg hg4 (Nat.le_refl _)
        rw [← hsn.out] at hown4
        go_wp2_with fail
        go_roundg (n + 1 - (k + 1))
        case measure => omega
        case rel => exact ⟨k + 1, _, by omega, rfl, by go_num, rfl, by omega, by omega, Hz2, hown4, hg5⟩
      · obtain rfl : k = n := by omega
        have hO2 : OwnI wr w.heap.size (.slice Ao no co) (sumsFrom 0 l) := by
          have := ho
          rw [List.take_of_length_le (by rw [← Hn.out]; exact Nat.le_refl _)] at this
          exact this
        clear ho Hz
        go_wp2_with fail
        go_ret2
        exact ⟨_, by rw [Hr.out]; rfl, by rw [Hr.out]; exact hO2, hg⟩
  · have hok' : rowValid l = false := by simpa using hok
    have Hr : Hid (rowSums l = none) := by show _ = _; unfold rowSums; rw [if_neg hok]
    have Hok := Lib.hid hok'
    clear hok hok'
    go_enter Tryz.func112, Tryz.ntmps112
    go_wp2_with fail
    refine (specRowValid_b _ l _ (h.alloc _) Hok.out).mono ?_
    rintro e w' ⟨rfl, rfl⟩
    go_wp2_with fail
    go_ret2
    exact ⟨_, by rw [Hr.out]; rfl, by rw [Hr.out]; exact OwnI.empty w (Nat.le_refl _), World.grownBy_alloc w _ none⟩
theorem putRow_len (l : List Int) (n : Int) : (putRow l n).length = l.length + 1 := by
  induction l with
  | nil => rfl
  | cons x xs ih => unfold putRow; split <;> simp [ih]
theorem foldl_put_len (l acc : List Int) : (l.foldl putRow acc).length = l.length + acc.length := by
  induction l generalizing acc with
  | nil => simp
  | cons x xs ih => rw [List.foldl_cons, ih, putRow_len, List.length_cons]; omega
theorem drop_cons {l : List Int} {k : Nat} {x : Int} (h : l[k]? = some x) : l.drop k = x :: l.drop (k + 1) := by
  obtain ⟨hk, rfl⟩ := List.getElem?_eq_some_iff.1 h
  exact List.drop_eq_getElem_cons hk
set_option maxHeartbeats 800000 in
theorem l1Put_any (v : Value) (l : List Int) (x : Int) (w : World) (h : RI w v l) (hl : l.length ≤ 12) : Calls Tryz.prog 130 #[v, .int .i64 x] w (IntsOut w (putRow l x)) := by
  obtain ⟨A, n, c, rfl, hc, hn⟩ := h.form'
  have hn12 : n ≤ 12 := by omega
  have Hn := Lib.hid hn
  clear hn hl
  have ho0 := OwnI.empty w (Nat.le_refl w.heap.size)
  have hg0 := World.grownBy_alloc w (.cells #[] 3) none
  go_enter Tryz.func130, Tryz.ntmps130
  go_wp2_with fail
  go_loopg [5, 6, 7] (n + 1) (fun mm o d i wr => ∃ (k : Nat) (b : Bool) (q : List Int), k ≤ n ∧ mm = n + 1 - k ∧ i = .int .i64 k ∧ d = .bool b ∧ q.length ≤ 2 * k ∧ Hid (q ++ (if b then l.drop k else putRow (l.drop k) x) = putRow l x) ∧ OwnI wr w.heap.size o q ∧ w.grownBy wr none)
  case atStart => exact ⟨0, false, [], Nat.zero_le _, rfl, rfl, rfl, by simp, rfl, ho0, hg0⟩
  case round =>
    clear ho0 hg0
    obtain ⟨k, b, q, hk, rfl, rfl, rfl, hq, Hq, ho, hg⟩ := hrel
    obtain ⟨Ao, no, co, rfl⟩ := ho.ri.val
    by_cases hlt : k < n
    · obtain ⟨ga, oa, y, rfl, hy, c0⟩ := (h.new hg).at_ hlt
      have hd := drop_cons hy
      cases b
      · by_cases hxy : x < y
        · have Hq2 : Hid ((q ++ [x, y]) ++ (if true then l.drop (k + 1) else putRow (l.drop (k + 1)) x) = putRow l x) := by
            show _ = _
            rw [← Hq.out, hd]
            simp [putRow, hxy]
          clear Hq hd
          go_wp2_with (at_builtin; go_must (refine wp_push_int (.tmp 25) (.tmp 27) rfl rfl ho (by omega) hg.size rfl rfl ?_))
          intro v' w4 hown4 hg4
          have hg5 := ho.gb hg hg4 (Nat.le_refl _)
          obtain ⟨A', n', c', rfl⟩ := hown4.ri.val
          have hc1 : w4.cell? ⟨ga, oa + k, none⟩ = some (.int .i64 y) := by
            obtain ⟨ga', oa', y', e', hy', c0'⟩ := (h.new hg5).at_ hlt
            injection e' with e'
            injection e' with e1 e2 e3
            subst e1 e2
            rw [hy] at hy'
            injection hy' with hy'
            rw [hy']
            exact c0'
          clear hy
          have hql : (q ++ [x]).length ≤ 1000000000 := by rw [List.length_append]; simp; omega
          go_wp2_with (at_builtin; go_must (refine wp_push_int (.tmp 29) (.tmp 34) rfl rfl hown4 hql hg5.size rfl rfl ?_))
          intro v5 w5 hown5 hg6
          have hown6 : OwnI w5 w.heap.size v5 (q ++ [x, y]) := hown5
          clear hown5
          have hg7 := hown4.gb hg5 hg6 (Nat.le_refl _)
          go_wp2_with fail
          go_roundg (n + 1 - (k + 1))
          case measure => omega
          case rel => exact ⟨k + 1, true, _, by omega, rfl, by go_num, rfl, by rw [List.length_append]; simp; omega, Hq2, hown6, hg7⟩
        · have Hq2 : Hid ((q ++ [y]) ++ (if false then l.drop (k + 1) else putRow (l.drop (k + 1)) x) = putRow l x) := by
            show _ = _
            rw [← Hq.out, hd]
            simp [putRow, hxy]
          clear Hq hy hd
          go_wp2_with (at_builtin; go_must (refine wp_push_int (.tmp 29) (.tmp 34) rfl rfl ho (by omega) hg.size rfl rfl ?_))
          intro v' w4 hown4 hg4
          have hg5 := ho.gb hg hg4 (Nat.le_refl _)
          go_wp2_with fail
          go_roundg (n + 1 - (k + 1))
          case measure => omega
          case rel => exact ⟨k + 1, false, _, by omega, rfl, by go_num, rfl, by rw [List.length_append]; simp; omega, Hq2, hown4, hg5⟩
      · have Hq2 : Hid ((q ++ [y]) ++ (if true then l.drop (k + 1) else putRow (l.drop (k + 1)) x) = putRow l x) := by
          show _ = _
          rw [← Hq.out, hd]
          simp
        clear Hq hy hd
        go_wp2_with (at_builtin; go_must (refine wp_push_int (.tmp 29) (.tmp 34) rfl rfl ho (by omega) hg.size rfl rfl ?_))
        intro v' w4 hown4 hg4
        have hg5 := ho.gb hg hg4 (Nat.le_refl _)
        go_wp2_with fail
        go_roundg (n + 1 - (k + 1))
        case measure => omega
        case rel => exact ⟨k + 1, true, _, by omega, rfl, by go_num, rfl, by rw [List.length_append]; simp; omega, Hq2, hown4, hg5⟩
    · obtain rfl : k = n := by omega
      have hdn : l.drop k = [] := List.drop_eq_nil_of_le (by rw [← Hn.out]; exact Nat.le_refl _)
      cases b
      · have Hq2 : Hid (q ++ [x] = putRow l x) := by
          show _ = _
          rw [← Hq.out, hdn]
          rfl
        clear Hq hdn
        go_wp2_with (at_builtin; go_must (refine wp_push_int (.tmp 38) (.tmp 40) rfl rfl ho (by omega) hg.size rfl rfl ?_))
        intro v' w4 hown4 hg4
        have hg5 := ho.gb hg hg4 (Nat.le_refl _)
        rw [Hq2.out] at hown4
        obtain ⟨A', n', c', rfl⟩ := hown4.ri.val
        go_wp2_with fail
        go_ret
        exact ⟨_, rfl, hown4, hg5⟩
      · have Hq2 : Hid (q = putRow l x) := by
          show _ = _
          rw [← Hq.out, hdn]
          simp
        clear Hq hdn
        rw [Hq2.out] at ho
        go_wp2_with fail
        go_ret
        exact ⟨_, rfl, ho, hg⟩
theorem specRowSort_any (v : Value) (l : List Int) (w : World) (h : RI w v l) : Calls Tryz.prog 113 #[v] w (RowOut w (rowSort l)) := by
  obtain ⟨A, n, c, rfl, hc, hn⟩ := h.form'
  have Hn := Lib.hid hn
  clear hn
  by_cases hok : rowValid l = true
  · have Hr : Hid (rowSort l = some (sortRow l)) := by show _ = _; unfold rowSort; rw [if_pos hok]
    have Hok := Lib.hid hok
    have hn6 : n ≤ 6 := by rw [Hn.out]; exact rowValid_len hok
    clear hok
    go_enter Tryz.func113, Tryz.ntmps113
    go_wp2_with fail
    refine (specRowValid_b _ l _ (h.alloc _) Hok.out).mono ?_
    rintro e w' ⟨rfl, rfl⟩
    have ho0 := OwnI.empty w (Nat.le_refl w.heap.size)
    have hg0 := World.grownBy_alloc w (.cells #[] 3) none
    go_wp2_with fail
    go_loopg [4, 5] (n + 1) (fun mm o i wr => ∃ (k : Nat), k ≤ n ∧ mm = n + 1 - k ∧ i = .int .i64 k ∧ OwnI wr w.heap.size o ((l.take k).foldl putRow []) ∧ w.grownBy wr none)
    case atStart => exact ⟨0, Nat.zero_le _, rfl, rfl, ho0, hg0⟩
    case round =>
      clear ho0 hg0
      obtain ⟨k, hk, rfl, rfl, ho, hg⟩ := hrel
      obtain ⟨Ao, no, co, rfl⟩ := ho.ri.val
      by_cases hlt : k < n
      · obtain ⟨ga, oa, x, rfl, hx, c0⟩ := (h.new hg).at_ hlt
        obtain ⟨hk', hx'⟩ := List.getElem?_eq_some_iff.1 hx
        have hsn : Hid ((l.take (k + 1)).foldl putRow [] = putRow ((l.take k).foldl putRow []) x) := by
          show _ = _
          rw [List.take_succ_eq_append_getElem hk', hx', List.foldl_append]
          rfl
        have hl : ((l.take k).foldl putRow []).length ≤ 12 := by rw [foldl_put_len, List.length_take]; simp; omega
        clear hx hk' hx'
        go_wp2_with fail
        refine (l1Put_any _ _ x _ ho.ri hl).mono ?_
        rintro e w4 ⟨v', rfl, hown4, hg4⟩
        have hown5 := hown4.low hg.size
        have hg5 := hg.trans hg4
        rw [← hsn.out] at hown5
        obtain ⟨A', n', c', rfl⟩ := hown5.ri.val
        go_wp2_with fail
        go_roundg (n + 1 - (k + 1))
        case measure => omega
        case rel => exact ⟨k + 1, by omega, rfl, by go_num, hown5, hg5⟩
      · obtain rfl : k = n := by omega
        have hO2 : OwnI wr w.heap.size (.slice Ao no co) (sortRow l) := by
          have := ho
          rw [List.take_of_length_le (by rw [← Hn.out]; exact Nat.le_refl _)] at this
          exact this
        clear ho
        go_wp2_with fail
        go_ret2
        exact ⟨_, by rw [Hr.out]; rfl, by rw [Hr.out]; exact hO2, hg⟩
  · have hok' : rowValid l = false := by simpa using hok
    have Hr : Hid (rowSort l = none) := by show _ = _; unfold rowSort; rw [if_neg hok]
    have Hok := Lib.hid hok'
    clear hok hok'
    go_enter Tryz.func113, Tryz.ntmps113
    go_wp2_with fail
    refine (specRowValid_b _ l _ (h.alloc _) Hok.out).mono ?_
    rintro e w' ⟨rfl, rfl⟩
    go_wp2_with fail
    go_ret2
    exact ⟨_, by rw [Hr.out]; rfl, by rw [Hr.out]; exact OwnI.empty w (Nat.le_refl _), World.grownBy_alloc w _ none⟩
theorem specRowTurn_any (v : Value) (l : List Int) (w : World) (h : RI w v l) : Calls Tryz.prog 114 #[v] w (RowOut w (rowTurn l)) := by
  obtain ⟨A, n, c, rfl, hc, hn⟩ := h.form'
  have Hn := Lib.hid hn
  clear hn
  by_cases hok : rowValid l = true
  · have Hr : Hid (rowTurn l = some l.reverse) := by show _ = _; unfold rowTurn; rw [if_pos hok]
    have Hok := Lib.hid hok
    have hn6 : n ≤ 6 := by rw [Hn.out]; exact rowValid_len hok
    have hw : IntKind.i64.wrap ((n : Int) - 1) = (n : Int) - 1 := IntWalk.i64_in _ (by omega)
    clear hok
    go_enter Tryz.func114, Tryz.ntmps114
    go_wp2_with fail
    refine (specRowValid_b _ l _ (h.alloc _) Hok.out).mono ?_
    rintro e w' ⟨rfl, rfl⟩
    have ho0 := OwnI.empty w (Nat.le_refl w.heap.size)
    have hg0 := World.grownBy_alloc w (.cells #[] 3) none
    have hl0 : (l.drop n).reverse = [] := by rw [List.drop_eq_nil_of_le (by rw [← Hn.out]; exact Nat.le_refl _)]; rfl
    go_wp2_with fail
    go_loopg [4, 5] (n + 1) (fun mm o i wr => ∃ (j : Nat) (z : Int), j ≤ n ∧ mm = j + 1 ∧ z = (j : Int) - 1 ∧ i = .int .i64 z ∧ OwnI wr w.heap.size o (l.drop j).reverse ∧ w.grownBy wr none)
    case atStart => exact ⟨n, _, Nat.le_refl _, rfl, rfl, by first | rfl | rw [hw], by rw [hl0]; exact ho0, hg0⟩
    case round =>
      clear ho0 hg0 hl0 hw
      obtain ⟨j, z, hk, rfl, hz, rfl, ho, hg⟩ := hrel
      obtain ⟨Ao, no, co, rfl⟩ := ho.ri.val
      cases j with
      | succ k =>
        obtain rfl : z = (k : Int) := by omega
        clear hz
        have hlt : k < n := by omega
        obtain ⟨ga, oa, x, rfl, hx, c0⟩ := (h.new hg).at_ hlt
        have hsn : Hid ((l.drop k).reverse = (l.drop (k + 1)).reverse ++ [x]) := by
          show _ = _
          rw [drop_cons hx, List.reverse_cons]
        have hl : (l.drop (k + 1)).reverse.length ≤ 12 := by rw [List.length_reverse, List.length_drop, ← Hn.out]; omega
        clear hx
        go_wp2_with (at_builtin; go_must (refine wp_push_int (.tmp 18) (.tmp 23) rfl rfl ho (by omega) hg.size rfl rfl ?_))
        intro v' w4 hown4 hg4
        have hg5 := ho.gb hg hg4 (Nat.le_refl _)
        rw [← hsn.out] at hown4
        go_wp2_with fail
        go_roundg (k + 1)
        case measure => omega
        case rel => exact ⟨k, _, by omega, rfl, rfl, by go_num, hown4, hg5⟩
      | zero =>
        obtain rfl : z = -1 := by omega
        have hO2 : OwnI wr w.heap.size (.slice Ao no co) l.reverse := ho
        clear ho hz
        go_wp2_with fail
        go_ret2
        exact ⟨_, by rw [Hr.out]; rfl, by rw [Hr.out]; exact hO2, hg⟩
  · have hok' : rowValid l = false := by simpa using hok
    have Hr : Hid (rowTurn l = none) := by show _ = _; unfold rowTurn; rw [if_neg hok]
    have Hok := Lib.hid hok'
    clear hok hok'
    go_enter Tryz.func114, Tryz.ntmps114
    go_wp2_with fail
    refine (specRowValid_b _ l _ (h.alloc _) Hok.out).mono ?_
    rintro e w' ⟨rfl, rfl⟩
    go_wp2_with fail
    go_ret2
    exact ⟨_, by rw [Hr.out]; rfl, by rw [Hr.out]; exact OwnI.empty w (Nat.le_refl _), World.grownBy_alloc w _ none⟩
end Go.Proofs.YtihobnheficpjaaGreat
