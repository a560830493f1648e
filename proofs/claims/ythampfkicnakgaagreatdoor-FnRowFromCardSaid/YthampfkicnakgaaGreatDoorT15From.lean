/- Walks: the row of a text, by the reference: spec.l41Cut, spec.l41Number, spec.RowFrom. -/
import Derived.Test.YthampfkicnakgaaGreatDoorT12Row
import Derived.Test.YthampfkicnakgaaGreatDoorA21From
import Derived.Test.YthampfkicnakgaaGreatDoorE2Args
namespace Go.Proofs.YthampfkicnakgaaGreatDoor
open Go.RowKit

theorem info9' : (Tryz.prog.info? 9).map (fun i => (i.zero, i.size, i.bytes)) = some (some (.string ⟨#[]⟩), 1, 16) := by kernel_rfl
/-- A row of strings of the call's own. -/
def OwnT (w : World) (base : Nat) (v : Value) (ss : List (List UInt8)) : Prop := w.ownsRow base 9 1 v ss.length (ss.map fun s => Value.string (bstr s))
theorem OwnT.new {w w' : World} {base : Nat} {v : Value} {ss : List (List UInt8)} (h : OwnT w base v ss) (hg : w.grownBy w' none) : OwnT w' base v ss := own_grown h hg (NotE.none _ _)
theorem OwnT.gb {a w w' : World} {base : Nat} {v : Value} {ss : List (List UInt8)} {row : Option Nat} (h : OwnT w base v ss) (hg : a.grownBy w row) (k : w.grownBy w' v.ownBlock) (hb : a.heap.size ≤ base) : a.grownBy w' row :=
  gb_new hg k (fun g e => .inl (Nat.le_trans hb ((World.ownsRow.lt h g e).1)))
theorem OwnT.form {w : World} {base : Nat} {v : Value} {ss : List (List UInt8)} (h : OwnT w base v ss) : ∃ A c, v = .slice A ss.length c ∧ ss.length ≤ c := by
  rcases h.2 with ⟨rfl, h0⟩ | ⟨g, cap, cur, rfl, _, _, hn, _⟩
  · exact ⟨none, 0, by rw [h0], by omega⟩
  · exact ⟨_, cap, rfl, hn⟩
theorem OwnT.at_ {w : World} {base n c k : Nat} {A : Option Addr} {ss : List (List UInt8)} (h : OwnT w base (.slice A n c) ss) (hk : k < n) : ∃ g x, A = some ⟨g, 0, none⟩ ∧ ss[k]? = some x ∧ w.cell? ⟨g, k, none⟩ = some (.string (bstr x)) := by
  have hn : n = ss.length := by
    obtain ⟨A', c', e, _⟩ := h.form
    injection e
  subst hn
  rcases h.2 with ⟨e0, h0⟩ | ⟨g, cap, cur, e0, hb, hh, hn, _, _, ht⟩
  · omega
  · injection e0 with e1 e2 e3
    subst e1 e3
    have hc := World.ownsRow.cellAt (g := g) (cap := c) h k (by omega)
    exact ⟨g, ss[k], rfl, List.getElem?_eq_getElem hk, by rw [hc]; simp [hk]⟩
/-- 'append(out, s)' of one string. -/
theorem wp_push_str {ops : Array Oper} {rest : List Oper} {o : Oper} {a : Act} {Q : Exit → Act → World → Prop} {w : World} {u : List UInt8}
    (s x : Operand) (hgd : o.guard = none) (ho : o.op = .call { callee := .builtin .append, args := #[s, x], argTypes := #[46, 46] })
    {base : Nat} {v : Value} {l : List (List UInt8)} (hown : OwnT w base v l) (hn : l.length ≤ 1000000000) (hbase : base ≤ w.heap.size)
    (hs : a.eval s = v) (hx : a.eval x = .slice (some ⟨w.heap.size, 0, none⟩) 1 1)
    (h : ∀ v' w', OwnT w' base v' (l ++ [u]) → w.grownBy w' v.ownBlock → wpList Tryz.prog ops Q rest (a.put o.dst v') w') :
    wpList Tryz.prog ops Q (o :: rest) a (w.alloc (.cells #[.string (bstr u)] 9)) :=
  wp_push s x 46 (.string ⟨#[]⟩) 1 16 Tryz.underlying46 info9' rfl (by decide) (by decide) hgd ho hown hn hbase rfl (by simp [Value.oneCell']) hs hx
    fun v' w' h1 h2 _ => h v' w' (by unfold OwnT; simpa using h1) h2
theorem bstr_extract (S : List UInt8) (a b : Nat) : (bstr S).extract a b = bstr ((S.drop a).take (b - a)) := by
  rw [← bstr_eta ((bstr S).extract a b), Lib.extract_data]
  rfl
def CutPost (w : World) (S : List UInt8) (e : Ending) (w' : World) : Prop := ∃ v, e = .returned v ∧ OwnT w' w.heap.size v (cut44 S) ∧ w.grownBy w' none
set_option maxHeartbeats 800000 in
set_option maxRecDepth 20000 in
theorem l41Cut_any (S : List UInt8) (w : World) (hS : S.length ≤ 1048576) : Calls Tryz.prog 27 #[.string (bstr S), .int .u8 44] w (CutPost w S) := by
  have hsz : (bstr S).size = S.length := bstr_size S
  have h0 : OwnT (w.alloc (.cells #[] 9)) w.heap.size (.slice (some ⟨w.heap.size, 0, none⟩) 0 0) [] := own_empty (Nat.le_refl _)
  go_enter Tryz.func27, Tryz.ntmps27
  go_wp2_with fail
  go_loopg [5, 6, 7] (S.length + 1) (fun mm out fr i wr => ∃ (k f : Nat) (ws : List (List UInt8)), k ≤ S.length ∧ f ≤ k ∧ mm = S.length + 1 - k ∧ i = .int .i64 k ∧ fr = .int .i64 f ∧ OwnT wr w.heap.size out ws ∧ ws.length ≤ f ∧ w.grownBy wr none ∧ Hid (ws ++ cut44 (S.drop f) = cut44 S ∧ ∀ b ∈ (S.drop f).take (k - f), b ≠ 44))
  case atStart => exact ⟨0, 0, [], Nat.zero_le _, Nat.zero_le _, rfl, rfl, rfl, h0, Nat.le_refl _, gb_alloc (gb_refl w none) _, rfl, fun b hb => by simp at hb⟩
  case round =>
    clear h0
    obtain ⟨k, f, ws, hk, hfk, rfl, rfl, rfl, hown, hwl, hg, Hi⟩ := hrel
    by_cases hlt : k < S.length
    · have hget : (bstr S)[k]'(by rw [bstr_size]; exact hlt) = S[k] := rfl
      have hcut : S.drop f = (S.drop f).take (k - f) ++ S[k] :: S.drop (k + 1) := by
        conv => lhs; rw [← List.take_append_drop (k - f) (S.drop f)]
        rw [List.drop_drop, show f + (k - f) = k by omega, List.drop_eq_getElem_cons hlt]
      by_cases hb : S[k] = 44
      · have hq : ((((bstr S)[k]'(by rw [bstr_size]; exact hlt)).toNat : Int) == 44) = true := by rw [hget, hb]; rfl
        have hE : (bstr S).extract f k = bstr ((S.drop f).take (k - f)) := bstr_extract S f k
        have Hi2 : Hid ((ws ++ [(S.drop f).take (k - f)]) ++ cut44 (S.drop (k + 1)) = cut44 S ∧ ∀ b ∈ (S.drop (k + 1)).take (k + 1 - (k + 1)), b ≠ 44) := by
          refine ⟨?_, fun b hb => by simp at hb⟩
          rw [← Hi.out.1, List.append_assoc]
          congr 1
          conv => rhs; rw [hcut, hb]
          rw [cut44_hit Hi.out.2]
          rfl
        have hsz9 := hg.size
        clear hget hcut hb Hi
        go_wp2_with (at_builtin; go_must (refine wp_push_str (u := (S.drop f).take (k - f)) (.tmp 20) (.tmp 25) rfl rfl hown (by omega) hsz9 rfl rfl ?_))
        intro v2 w2 hown2 hg2
        have hg3 := hown.gb hg hg2 (Nat.le_refl _)
        go_wp2_with fail
        go_roundg (S.length + 1 - (k + 1))
        case measure => omega
        case rel => exact ⟨k + 1, k + 1, _, by omega, Nat.le_refl _, rfl, by go_num, by go_num, hown2, by simp; omega, hg3, Hi2⟩
      · have hq : ((((bstr S)[k]'(by rw [bstr_size]; exact hlt)).toNat : Int) == 44) = false := by
          rw [hget]
          have : S[k].toNat ≠ 44 := fun e => hb (UInt8.toNat_inj.1 e)
          simp
          omega
        have Hi2 : Hid (ws ++ cut44 (S.drop f) = cut44 S ∧ ∀ b ∈ (S.drop f).take (k + 1 - f), b ≠ 44) := by
          refine ⟨Hi.out.1, fun b hb2 => ?_⟩
          rw [show k + 1 - f = (k - f) + 1 by omega] at hb2
          have hx : (S.drop f)[k - f]? = some S[k] := by
            rw [List.getElem?_drop, show f + (k - f) = k by omega]
            exact List.getElem?_eq_getElem hlt
          obtain ⟨hl2, hv2⟩ := List.getElem?_eq_some_iff.1 hx
          rw [List.take_succ_eq_append_getElem hl2, hv2] at hb2
          rcases List.mem_append.1 hb2 with hb2 | hb2
          · exact Hi.out.2 b hb2
          · obtain rfl : b = S[k] := by simpa using hb2
            exact hb
        clear hget hcut hb Hi
        go_wp2_with fail
        go_roundg (S.length + 1 - (k + 1))
        case measure => omega
        case rel => exact ⟨k + 1, f, ws, by omega, by omega, rfl, by go_num, rfl, hown, hwl, hg, Hi2⟩
    · obtain rfl : k = S.length := by omega
      have hE : (bstr S).extract f S.length = bstr (S.drop f) := by
        rw [bstr_extract, List.take_of_length_le (by rw [List.length_drop]; omega)]
      have Hi2 : Hid (ws ++ [S.drop f] = cut44 S) := by
        show _ = _
        rw [← Hi.out.1]
        congr 1
        have := Hi.out.2
        rw [List.take_of_length_le (by rw [List.length_drop]; omega)] at this
        exact (cut44_none this).symm
      have hsz9 := hg.size
      clear Hi
      go_wp2_with (at_builtin; go_must (refine wp_push_str (u := S.drop f) (.tmp 29) (.tmp 33) rfl rfl hown (by omega) hsz9 rfl rfl ?_))
      intro v2 w2 hown2 hg2
      have hg3 := hown.gb hg hg2 (Nat.le_refl _)
      go_wp2_with fail
      go_ret
      exact ⟨_, rfl, by rw [← Hi2.out]; exact hown2, hg3⟩
set_option maxHeartbeats 800000 in
set_option maxRecDepth 20000 in
theorem l41Number_any (W : List UInt8) (w : World) (hW : W.length ≤ 1048576) : Calls Tryz.prog 28 #[.string (bstr W)] w fun e w' => e = .returned (.int .i64 (wordNum W)) ∧ w = w' := by
  have hsz : (bstr W).size = W.length := bstr_size W
  by_cases hl : 1 ≤ W.length ∧ W.length ≤ 4
  · have hin : (decide ((1 : Int) ≤ (W.length : Int)) && decide ((W.length : Int) ≤ 4)) = true := by simp; omega
    have Hin := Lib.hid hin
    clear hin
    go_enter Tryz.func28, Tryz.ntmps28
    go_wp2_with fail
    refine (l6In_b _ _ _ _ Hin.out).mono ?_
    rintro e w1 ⟨rfl, rfl⟩
    go_wp2_with fail
    go_loopg [3, 4] (W.length + 1) (fun mm n i wr => ∃ k : Nat, k ≤ W.length ∧ mm = W.length + 1 - k ∧ i = .int .i64 k ∧ n = .int .i64 (digVal (W.take k)) ∧ digVal (W.take k) < 10 ^ k ∧ Hid ((W.take k).all isDig = true) ∧ wr = w)
    case atStart => exact ⟨0, Nat.zero_le _, rfl, rfl, rfl, (by show 0 < 1; omega), rfl, rfl⟩
    case round =>
      obtain ⟨k, hk, rfl, rfl, rfl, hdl, Hall, rfl⟩ := hrel
      by_cases hlt : k < W.length
      · have hget : (bstr W)[k]'(by rw [bstr_size]; exact hlt) = W[k] := rfl
        have htk : W.take (k + 1) = W.take k ++ [W[k]] := List.take_succ_eq_append_getElem hlt
        by_cases hd : isDig W[k] = true
        · have hd2 : 48 ≤ W[k].toNat ∧ W[k].toNat ≤ 57 := by simpa [isDig] using hd
          have Hall2 : Hid ((W.take (k + 1)).all isDig = true) := by
            show _ = _
            rw [htk, List.all_append, Hall.out]
            simpa using hd
          have Hv : Hid (digVal (W.take (k + 1)) = 10 * digVal (W.take k) + (W[k].toNat - 48)) := by
            show _ = _
            rw [htk, digVal_snoc]
          have hd3 : digVal (W.take (k + 1)) < 10 ^ (k + 1) := by
            rw [Hv.out, Nat.pow_succ]
            omega
          have hp4 : 10 ^ k ≤ 10 ^ 4 := Nat.pow_le_pow_right (by omega) (by omega)
          have hdv : digVal (W.take k) ≤ 10000 := by omega
          obtain ⟨z, hz⟩ : ∃ z : Int, ((((bstr W)[k]'(by rw [bstr_size]; exact hlt)).toNat : Nat) : Int) = z := ⟨_, rfl⟩
          have hz0 : z = (W[k].toNat : Int) := by rw [← hz, hget]
          have hz1 : ¬ z < 48 := by omega
          have hz2 : ¬ 57 < z := by omega
          have e1 : IntKind.u8.wrap (z - 48) = z - 48 := IntWalk.u8_in _ (by omega)
          have Hz := Lib.hid hz0
          have hz3 : 48 ≤ z := by omega
          have hz4 : z ≤ 57 := by omega
          clear hz0 hd hd2 Hall hp4 hdl hget
          generalize hdn : digVal (W.take k) = dn at *
          clear hdn
          go_wp2_with fail
          go_roundg (W.length + 1 - (k + 1))
          case measure => omega
          case rel => exact ⟨k + 1, by omega, rfl, by go_num, by rw [Hv.out]; have := Hz.out; go_num, hd3, Hall2, rfl⟩
        · have hd2 : ¬ (48 ≤ W[k].toNat ∧ W[k].toNat ≤ 57) := by simpa [isDig] using hd
          have hT : Hid (wordNum W = -1) := by
            show _ = _
            unfold wordNum
            rw [if_neg]
            rintro ⟨-, -, h3⟩
            rw [List.all_eq_true] at h3
            exact hd (h3 _ (List.getElem_mem hlt))
          obtain ⟨z, hz⟩ : ∃ z : Int, ((((bstr W)[k]'(by rw [bstr_size]; exact hlt)).toNat : Nat) : Int) = z := ⟨_, rfl⟩
          have hz0 : z = (W[k].toNat : Int) := by rw [← hz, hget]
          by_cases hz1 : z < 48
          · clear hz0 hd hd2 Hall hdl hget
            go_wp2_with fail
            go_ret
            exact ⟨by rw [hT.out] <;> rfl, rfl⟩
          · have hz2 : 57 < z := by omega
            clear hz0 hd hd2 Hall hdl hget
            go_wp2_with fail
            go_ret
            exact ⟨by rw [hT.out] <;> rfl, rfl⟩
      · obtain rfl : k = W.length := by omega
        have hT : Hid (wordNum W = (digVal (W.take W.length) : Int)) := by
          show _ = _
          unfold wordNum
          have := Hall.out
          rw [List.take_length] at this ⊢
          rw [if_pos ⟨hl.1, hl.2, this⟩]
        clear Hall hdl
        go_wp2_with fail
        go_ret
        exact ⟨by rw [hT.out]; rfl, rfl⟩
  · have hin : (decide ((1 : Int) ≤ (W.length : Int)) && decide ((W.length : Int) ≤ 4)) = false := by simp; omega
    have Hin := Lib.hid hin
    have hT : Hid (wordNum W = -1) := by
      show _ = _
      unfold wordNum
      rw [if_neg]
      rintro ⟨h1, h2, -⟩
      exact hl ⟨h1, h2⟩
    clear hin hl
    go_enter Tryz.func28, Tryz.ntmps28
    go_wp2_with fail
    refine (l6In_b _ _ _ _ Hin.out).mono ?_
    rintro e w1 ⟨rfl, rfl⟩
    go_wp2_with fail
    go_ret
    exact ⟨by rw [hT.out] <;> rfl, rfl⟩
/-- What RowFrom leaves: the row, if there is one. -/
def FromPost (w : World) (S : List UInt8) (e : Ending) (w' : World) : Prop := ∃ v, e = .returned (.tuple #[v, .bool (rowFrom S).isSome]) ∧ OwnI w' w.heap.size v ((rowFrom S).getD []) ∧ w.grownBy w' none
theorem bstr_toList (a : List UInt8) : (bstr a).toList = a := by
  rw [ByteArray.toList_eq]
  rfl
set_option maxHeartbeats 800000 in
set_option maxRecDepth 20000 in
theorem specRowFrom_any (S : List UInt8) (w : World) (hS : S.length ≤ 1048576) : Calls Tryz.prog 9 #[.string (bstr S)] w (FromPost w S) := by
  have h0 : OwnI (w.alloc (.cells #[] 3)) w.heap.size (.slice (some ⟨w.heap.size, 0, none⟩) 0 0) [] := OwnI.empty w (Nat.le_refl _)
  by_cases hs : S = [45]
  · have hb : ((bstr S).toList == [45]) = true := by rw [bstr_toList]; simpa using hs
    have hT : Hid (rowFrom S = some []) := by
      show _ = _
      unfold rowFrom
      rw [if_pos hs]
    clear hs
    go_enter Tryz.func9, Tryz.ntmps9
    go_wp2_with fail
    go_ret2
    exact ⟨_, by rw [hT.out]; rfl, by rw [hT.out]; exact h0, gb_alloc (gb_refl w none) _⟩
  · have hb : ((bstr S).toList == [45]) = false := by rw [bstr_toList]; simpa using hs
    have hspec := Lib.hid (rowFrom_spec hs)
    have hcl := cut44_len S
    clear hs
    go_enter Tryz.func9, Tryz.ntmps9
    go_wp2_with fail
    refine (l41Cut_any S _ hS).mono ?_
    rintro e w1 ⟨v1, rfl, hws, hg1⟩
    rw [World.size_alloc] at hws
    obtain ⟨A, c, rfl, hc⟩ := hws.form
    have Hl : Hid ((cut44 S).length ≤ S.length + 1) := hcl
    have hwn : (cut44 S).length ≤ 1048577 := by omega
    have hown := h0.new hg1
    have hg := gb_trans (gb_alloc (gb_refl w none) _) hg1
    clear h0 hg1 hcl
    obtain ⟨n, hn⟩ : ∃ n, (cut44 S).length = n := ⟨_, rfl⟩
    rw [hn] at hws hc hwn ⊢
    have Hn := Lib.hid hn
    clear hn
    go_wp2_with fail
    go_loopg [4, 6] (n + 1) (fun mm out i wr => ∃ k : Nat, k ≤ n ∧ mm = n + 1 - k ∧ i = .int .i64 k ∧ OwnI wr w.heap.size out (((cut44 S).map wordNum).take k) ∧ w.grownBy wr none ∧ OwnT wr (w.heap.size + 1) (.slice A n c) (cut44 S))
    case atStart => exact ⟨0, Nat.zero_le _, rfl, rfl, hown, hg, hws⟩
    case round =>
      clear hown hg hws
      obtain ⟨k, hk, rfl, rfl, hown, hg, hws⟩ := hrel
      by_cases hlt : k < n
      · obtain ⟨g, x, rfl, hx, hcell⟩ := hws.at_ hlt
        have hxl : x.length ≤ 1048576 := by
          have := cut44_mem_len S x (List.mem_of_getElem? hx)
          omega
        have Hx : Hid (((cut44 S).map wordNum).take (k + 1) = ((cut44 S).map wordNum).take k ++ [wordNum x]) := by
          show _ = _
          obtain ⟨hx1, rfl⟩ := List.getElem?_eq_some_iff.1 hx
          rw [List.take_succ_eq_append_getElem (by rw [List.length_map]; exact hx1), List.getElem_map]
        have hll : (((cut44 S).map wordNum).take k).length ≤ 1000000000 := by
          rw [List.length_take]
          omega
        clear hx
        go_wp2_with fail
        refine (l41Number_any x _ hxl).mono ?_
        rintro e w2 ⟨rfl, rfl⟩
        have hsz9 := hg.size
        go_wp2_with (at_builtin; go_must (refine wp_push_int (.tmp 19) (.tmp 25) rfl rfl hown hll hsz9 rfl rfl ?_))
        intro v2 w2 hown2 hg2
        have hg3 := hown.gb hg hg2 (Nat.le_refl _)
        have hws2 : OwnT w2 (w.heap.size + 1) (.slice (some ⟨g, 0, none⟩) n c) (cut44 S) := own_grown hws hg2 (hown.notE (by decide))
        clear hown hws hg hg2
        go_wp2_with fail
        go_roundg (n + 1 - (k + 1))
        case measure => omega
        case rel => exact ⟨k + 1, by omega, rfl, by go_num, by rw [Hx.out]; exact hown2, hg3, hws2⟩
      · obtain rfl : k = n := by omega
        rw [List.take_of_length_le (by rw [List.length_map]; exact Nat.le_of_eq Hn.out)] at hown
        have hown2 := hown
        clear hown hws
        obtain ⟨A2, n2, c2, rfl⟩ := hown2.ri.val
        by_cases hv : rowValid ((cut44 S).map wordNum) = true
        · have Hv := Lib.hid hv
          clear hv
          go_wp2_with fail
          refine (specRowValid_b _ _ _ hown2.ri Hv.out).mono ?_
          rintro e w3 ⟨rfl, rfl⟩
          go_wp2_with fail
          refine (l41Row_any _ _ _ hown2.ri Hv.out).mono ?_
          rintro e w3 ⟨rfl, hg3⟩
          by_cases ht : rowText ((cut44 S).map wordNum) = S
          · have hb2 : ((bstr (rowText ((cut44 S).map wordNum))).toList == (bstr S).toList) = true := by rw [ht, beq_self_eq_true]
            have hT : Hid (rowFrom S = some ((cut44 S).map wordNum)) := by
              show _ = _
              rw [hspec.out, if_pos ⟨Hv.out, ht⟩]
            have hown3 := hown2.new hg3
            clear ht
            go_wp2_with fail
            go_ret2
            exact ⟨_, by rw [hT.out]; rfl, by rw [hT.out]; exact hown3, gb_trans hg hg3⟩
          · have hb2 : ((bstr (rowText ((cut44 S).map wordNum))).toList == (bstr S).toList) = false := by rw [bstr_toList, bstr_toList]; simpa using ht
            have hT : Hid (rowFrom S = none) := by
              show _ = _
              rw [hspec.out, if_neg (fun h => ht h.2)]
            have h4 := OwnI.empty w3 (base := w.heap.size) (Nat.le_trans hg.size hg3.size)
            clear ht
            go_wp2_with fail
            go_ret2
            exact ⟨_, by rw [hT.out]; rfl, by rw [hT.out]; exact h4, gb_alloc (gb_trans hg hg3) _⟩
        · have hv' : rowValid ((cut44 S).map wordNum) = false := by simpa using hv
          have hT : Hid (rowFrom S = none) := by
            show _ = _
            rw [hspec.out, if_neg (fun h => hv h.1)]
          have Hv := Lib.hid hv'
          have h4 := OwnI.empty wr (base := w.heap.size) hg.size
          clear hv hv'
          go_wp2_with fail
          refine (specRowValid_b _ _ _ hown2.ri Hv.out).mono ?_
          rintro e w3 ⟨rfl, rfl⟩
          go_wp2_with fail
          go_ret2
          exact ⟨_, by rw [hT.out]; rfl, by rw [hT.out]; exact h4, gb_alloc hg _⟩
end Go.Proofs.YthampfkicnakgaaGreatDoor
