/- Walks: the row of a text, by the program: impl.isDigits, impl.readRow, impl.RowFrom. -/
import Derived.Test.YthampfkicnakgaaGreatDoorT15From
import Derived.Test.YthampfkicnakgaaGreatDoorT16As
import Derived.Test.YthampfkicnakgaaGreatDoorShelf
import Derived.Test.YthampfkicnakgaaGreatDoorShelf2
namespace Go.Proofs.YthampfkicnakgaaGreatDoor
open Go.RowKit

theorem bstr_empty' (l : List UInt8) : (bstr l).toList.isEmpty = decide (l = []) := by
  rw [bstr_toList]
  cases l <;> simp
set_option maxHeartbeats 800000 in
set_option maxRecDepth 20000 in
theorem isDigits_any (W : List UInt8) (w : World) (hW : W.length ≤ 1048576) : Calls Tryz.prog 49 #[.string (bstr W)] w fun e w' => e = .returned (.bool (W.all isDig && decide (W ≠ []))) ∧ w = w' := by
  have hsz : (bstr W).size = W.length := bstr_size W
  have hem := bstr_empty' W
  go_enter Tryz.func49, Tryz.ntmps49
  go_wp2_with fail
  go_loopg [6] (W.length + 1) (fun mm i wr => ∃ k : Nat, k ≤ W.length ∧ mm = W.length + 1 - k ∧ i = .int .i64 k ∧ Hid ((W.take k).all isDig = true) ∧ wr = w)
  case atStart => exact ⟨0, Nat.zero_le _, rfl, rfl, rfl, rfl⟩
  case round =>
    obtain ⟨k, hk, rfl, rfl, Hall, rfl⟩ := hrel
    by_cases hlt : k < W.length
    · have hget : (bstr W)[k]'(by rw [bstr_size]; exact hlt) = W[k] := rfl
      have htk : W.take (k + 1) = W.take k ++ [W[k]] := List.take_succ_eq_append_getElem hlt
      obtain ⟨z, hz⟩ : ∃ z : Int, ((((bstr W)[k]'(by rw [bstr_size]; exact hlt)).toNat : Nat) : Int) = z := ⟨_, rfl⟩
      have hz0 : z = (W[k].toNat : Int) := by rw [← hz, hget]
      by_cases hd : isDig W[k] = true
      · have hd2 : 48 ≤ W[k].toNat ∧ W[k].toNat ≤ 57 := by simpa [isDig] using hd
        have Hall2 : Hid ((W.take (k + 1)).all isDig = true) := by
          show _ = _
          rw [htk, List.all_append, Hall.out]
          simpa using hd
        have hz1 : ¬ z < 48 := by omega
        have hz2 : ¬ 57 < z := by omega
        clear hz0 hd hd2 Hall hget hem
        go_wp2_with fail
        go_roundg (W.length + 1 - (k + 1))
        case measure => omega
        case rel => exact ⟨k + 1, by omega, rfl, by go_num, Hall2, rfl⟩
      · have hd2 : ¬ (48 ≤ W[k].toNat ∧ W[k].toNat ≤ 57) := by simpa [isDig] using hd
        have hT : Hid (W.all isDig = false) := by
          show _ = _
          rw [List.all_eq_false]
          exact ⟨_, List.getElem_mem hlt, hd⟩
        by_cases hz1 : z < 48
        · clear hz0 hd hd2 Hall hget hem
          go_wp2_with fail
          go_ret
          exact ⟨by rw [hT.out] <;> rfl, rfl⟩
        · have hz2 : 57 < z := by omega
          clear hz0 hd hd2 Hall hget hem
          go_wp2_with fail
          go_ret
          exact ⟨by rw [hT.out] <;> rfl, rfl⟩
    · obtain rfl : k = W.length := by omega
      have hT : Hid (W.all isDig = true) := by
        have := Hall.out
        rw [List.take_length] at this
        exact this
      by_cases h0 : W = []
      · have he : (bstr W).toList.isEmpty = true := by rw [hem]; simpa using h0
        have h1 : decide (W ≠ []) = false := by simpa using h0
        have H1 := Lib.hid h1
        clear Hall hem h0 h1
        go_wp2_with fail
        go_ret
        exact ⟨by rw [hT.out, H1.out]; rfl, rfl⟩
      · have he : (bstr W).toList.isEmpty = false := by rw [hem]; simpa using h0
        have h1 : decide (W ≠ []) = true := by simpa using h0
        have H1 := Lib.hid h1
        clear Hall hem h0 h1
        go_wp2_with fail
        go_ret
        exact ⟨by rw [hT.out, H1.out]; rfl, rfl⟩
theorem isDigits_b (W : List UInt8) (w : World) (hW : W.length ≤ 1048576) {c : Bool} (hc : (W.all isDig && decide (W ≠ [])) = c) : Calls Tryz.prog 49 #[.string (bstr W)] w fun e w' => e = .returned (.bool c) ∧ w = w' := hc ▸ isDigits_any W w hW
/-- What RowFrom leans on in the program's and the library's variables. -/
structure FW (w : World) : Prop where
  m : ∃ m, w.cell? ⟨5, 0, none⟩ = some (.int .i64 m)
  r : ∃ te pe, w.cell? ⟨3, 0, none⟩ = some (.iface te pe)
  e : w.cell? ⟨0, 0, none⟩ = some (.iface 116 (.agg #[.pointer (some ⟨10, 48, none⟩)]))
theorem FW.new {w w' : World} (h : FW w) (hg : w.grownBy w' none) : FW w' := by
  obtain ⟨⟨m, h1⟩, ⟨te, pe, h2⟩, h3⟩ := h
  exact ⟨⟨m, hg.cell h1 (by simp)⟩, ⟨te, pe, hg.cell h2 (by simp)⟩, hg.cell h3 (by simp)⟩
/-- What readRow leaves: an error of its own type, or the row. -/
def ReadPost (w : World) (S : List UInt8) (e : Ending) (w' : World) : Prop := w.grownBy w' none ∧
  ((rowFrom S = none ∧ ∃ g, e = .returned (.tuple #[.slice none 0 0, .iface 51 (.pointer (some ⟨g, 0, none⟩))])) ∨ (∃ l v, rowFrom S = some l ∧ e = .returned (.tuple #[v, .nilIface]) ∧ OwnI w' w.heap.size v l))
theorem ReadPost.bad {w w' : World} {S : List UInt8} (h : rowFrom S = none) (hg : w.grownBy w' none) (g : Nat) : ReadPost w S (.returned (.tuple #[.slice none 0 0, .iface 51 (.pointer (some ⟨g, 0, none⟩))])) w' := ⟨hg, .inl ⟨h, g, rfl⟩⟩
theorem ReadPost.fine {w w' : World} {S : List UInt8} {l : List Int} {v : Value} (h : rowFrom S = some l) (hg : w.grownBy w' none) (ho : OwnI w' w.heap.size v l) : ReadPost w S (.returned (.tuple #[v, .nilIface])) w' := ⟨hg, .inr ⟨l, v, h, rfl, ho⟩⟩
theorem own_lower {w : World} {a b : Nat} {v : Value} {l : List Int} (h : OwnI w a v l) (hab : b ≤ a) : OwnI w b v l := by
  refine ⟨h.1, ?_⟩
  rcases h.2 with h0 | ⟨g, cap, cur, h1, h2, h3⟩
  · exact .inl h0
  · exact .inr ⟨g, cap, cur, h1, Nat.le_trans hab h2, h3⟩
theorem atoiOk_any (x : List UInt8) (v : Int) (w : World) (hx : x.length ≤ 1048576) (h : Lib.atoiAll x = .ok v) : Calls Tryz.prog 50 #[.string (bstr x)] w fun e w' => e = .returned (.tuple #[.int .i64 v, .nilIface]) ∧ w.grownBy w' none := by
  refine (Tryz.strconv_Atoi_ok (bstr x) (by rw [bstr_size]; omega) v h w).mono ?_
  rintro e w' ⟨rfl, rfl | ⟨t, rfl⟩⟩
  · exact ⟨rfl, gb_refl _ _⟩
  · exact ⟨rfl, gb_of_below (Lib.bytesWorld_below _ _ _) none⟩
def AtoiBad (w : World) (e : Ending) (w' : World) : Prop := ∃ z N, e = .returned (.tuple #[.int .i64 z, .iface 151 (.pointer (some ⟨N, 0, none⟩))]) ∧ w.grownBy w' none
theorem atoiBad_any (x : List UInt8) (w : World) (hx : x.length ≤ 1048576) (h : Lib.atoiAll x = .range) (hF : FW w) : Calls Tryz.prog 50 #[.string (bstr x)] w (AtoiBad w) := by
  obtain ⟨te, pe, hv⟩ := hF.r
  refine (Tryz.strconv_Atoi_range (bstr x) (by rw [bstr_size]; omega) h _ w hv (.inr ⟨te, pe, rfl⟩)).mono ?_
  rintro e w' ⟨N, rfl, -, -, hb⟩
  exact ⟨_, N, rfl, gb_of_below hb none⟩
theorem rowFrom_long {S : List UInt8} (hs : S ≠ [45]) (h : 6 < (cut44 S).length) : rowFrom S = none := by
  unfold rowFrom
  rw [if_neg hs, if_neg]
  rw [Bool.and_eq_true, decide_eq_true_eq]
  rintro ⟨-, h2⟩
  omega
theorem rowFrom_bad {S : List UInt8} {k : Nat} {x : List UInt8} (hs : S ≠ [45]) (hx : (cut44 S)[k]? = some x) (h : goodWord x = false) : rowFrom S = none := by
  unfold rowFrom
  rw [if_neg hs, if_neg]
  rw [Bool.and_eq_true, List.all_eq_true]
  rintro ⟨h1, -⟩
  rw [h1 x (List.mem_of_getElem? hx)] at h
  cases h
theorem rowFrom_good {S : List UInt8} (hs : S ≠ [45]) (h : (cut44 S).all goodWord = true) (hl : (cut44 S).length ≤ 6) : rowFrom S = some ((cut44 S).map fun w => (digVal w : Int)) := by
  unfold rowFrom
  rw [if_neg hs, if_pos]
  rw [Bool.and_eq_true, decide_eq_true_eq]
  exact ⟨h, hl⟩
set_option maxHeartbeats 1600000 in
set_option maxRecDepth 20000 in
theorem readRow_any (S : List UInt8) (w : World) (hS : S.length ≤ 1048576) (hF : FW w) : Calls Tryz.prog 25 #[.string (bstr S)] w (ReadPost w S) := by
  by_cases hs : S = [45]
  · have hb : ((bstr S).toList == [45]) = true := by rw [bstr_toList]; simpa using hs
    have hT : Hid (rowFrom S = some []) := by
      show _ = _
      unfold rowFrom
      rw [if_pos hs]
    clear hs
    go_enter Tryz.func25, Tryz.ntmps25
    go_wp2_with fail
    go_ret2
    exact ReadPost.fine hT.out (gb_refl _ _) (OwnI.nil _ _)
  · have hb : ((bstr S).toList == [45]) = false := by rw [bstr_toList]; simpa using hs
    have Hs := Lib.hid hs
    obtain ⟨m, hm⟩ := hF.m
    have hsz : (bstr S).size = S.length := bstr_size S
    have hsp := split7 (bstr S)
    have e0 : (bstr S).data.toList = S := rfl
    rw [e0] at hsp
    obtain ⟨hsp1, hsp2⟩ := hsp
    have hSp := Tryz.strings_SplitN (bstr S) ⟨#[44]⟩ 7 m w (by rw [hsz]; omega) hm (by decide) (by omega) (by omega)
    have hNl := Lib.splitB_length_le ⟨#[44]⟩ 0 (min 7 ((bstr S).size + 1) - 1) (bstr S)
    clear hs e0 hm
    generalize hP : Lib.splitB ⟨#[44]⟩ 0 (min 7 ((bstr S).size + 1) - 1) (bstr S) = ps at *
    generalize hN : min 7 ((bstr S).size + 1) = N at *
    replace hNl : ps.length ≤ N := by omega
    clear hP hN
    by_cases hlong : 6 < (cut44 S).length
    · have hl7 := hsp2 hlong
      have hT : Hid (rowFrom S = none) := rowFrom_long Hs.out hlong
      clear hsp1 hsp2 hlong
      go_enter Tryz.func25, Tryz.ntmps25
      go_wp2_with fail
      refine hSp.mono ?_
      rintro e w1 ⟨rfl, rfl⟩
      rw [hl7]
      go_wp2_with fail
      go_ret2
      exact ReadPost.bad hT.out (gb_alloc (gb_alloc (gb_refl _ _) _) _) _
    · have hps := hsp1 (by omega)
      subst hps
      rw [List.length_map] at hNl
      have hl6 : (cut44 S).length ≤ 6 := by omega
      have Hl6 := Lib.hid hl6
      clear hsp1 hsp2 hlong
      obtain ⟨n, hn⟩ : ∃ n, (cut44 S).length = n := ⟨_, rfl⟩
      rw [List.length_map, hn] at hSp
      rw [hn] at hNl hl6
      have Hn := Lib.hid hn
      have hcell : ∀ (k : Nat) (x : List UInt8), (cut44 S)[k]? = some x → (Lib.cellsOf ((cut44 S).map bstr) N)[k]? = some (Value.string (bstr x)) := by
        intro k x hx
        have hk := (List.getElem?_eq_some_iff.1 hx).1
        unfold Lib.cellsOf
        rw [List.getElem?_toArray, List.getElem?_append_left (by rw [List.length_map, List.length_map]; exact hk), List.getElem?_map, List.getElem?_map, hx]
        rfl
      have Hcell := Lib.hid hcell
      have hB := Blk.new w 9 (Lib.cellsOf ((cut44 S).map bstr) N)
      have hga := World.grownBy_alloc w (.cells (Lib.cellsOf ((cut44 S).map bstr) N) 9) none
      clear hn hcell
      go_enter Tryz.func25, Tryz.ntmps25
      go_wp2_with fail
      refine hSp.mono ?_
      rintro e w1 ⟨rfl, rfl⟩
      generalize w.alloc (.cells (Lib.cellsOf ((cut44 S).map bstr) N) 9) = wa at hB hga ⊢
      go_wp2_with fail
      go_loopg [5, 23] (n + 1) (fun mm row i wr => ∃ k : Nat, k ≤ n ∧ mm = n + 1 - k ∧ i = .int .i64 k ∧ OwnI wr (w.heap.size + 1) row (((cut44 S).map fun x => (digVal x : Int)).take k) ∧ Hid (((cut44 S).take k).all goodWord = true) ∧ w.grownBy wr none ∧ Blk wr w.heap.size 9 (Lib.cellsOf ((cut44 S).map bstr) N))
      case atStart => exact ⟨0, Nat.zero_le _, rfl, rfl, OwnI.nil _ _, rfl, hga, hB⟩
      case round =>
        clear hga hB hSp
        obtain ⟨k, hk, rfl, rfl, hown, Hall, hg, hB⟩ := hrel
        by_cases hlt : k < n
        · obtain ⟨x, hx⟩ : ∃ x, (cut44 S)[k]? = some x := ⟨_, List.getElem?_eq_getElem (by rw [Hn.out]; exact hlt)⟩
          have hxl : x.length ≤ 1048576 := by
            have := cut44_mem_len S x (List.mem_of_getElem? hx)
            omega
          have hc := (hB.cell k).trans (Hcell.out k x hx)
          have hxs : (bstr x).size = x.length := bstr_size x
          have Hbad : Hid (goodWord x = false → rowFrom S = none) := fun h => rowFrom_bad Hs.out hx h
          have Hx := Lib.hid hx
          clear hx
          by_cases hd : (x.all isDig && decide (x ≠ [])) = true
          · have Hd := Lib.hid hd
            have hd2 : x.all isDig = true ∧ x ≠ [] := by simpa using hd
            have hlen : 0 < x.length := List.length_pos_iff.2 hd2.2
            have Hd2 := Lib.hid hd2
            clear hd hd2
            have hget : (bstr x)[0]'(by rw [bstr_size]; exact hlen) = x[0] := rfl
            by_cases hz : 1 < x.length ∧ x[0] = 48
            · have hT : Hid (rowFrom S = none) := Hbad.out (by
                cases hg : goodWord x with
                | false => rfl
                | true => exact absurd (by rw [List.getElem?_eq_getElem hlen, hz.2]) ((goodWord_iff.1 hg).2.2.1 hz.1))
              have hz1 : (1 : Int) < (x.length : Int) := by omega
              have hz2 : (((((bstr x)[0]'(by rw [bstr_size]; exact hlen)).toNat : Nat) : Int) == 48) = true := by rw [hget, hz.2]; rfl
              clear hz hget
              go_wp2_with fail
              refine (isDigits_b x _ hxl Hd.out).mono ?_
              rintro e w2 ⟨rfl, rfl⟩
              go_wp2_with fail
              go_ret2
              exact ReadPost.bad hT.out (gb_alloc hg _) _
            · have hF2 := hF.new hg
              have Hz := Lib.hid hz
              have hcase : ¬ (1 : Int) < (x.length : Int) ∨ ((1 : Int) < (x.length : Int) ∧ (((((bstr x)[0]'(by rw [bstr_size]; exact hlen)).toNat : Nat) : Int) == 48) = false) := by
                by_cases h1 : 1 < x.length
                · refine .inr ⟨by omega, ?_⟩
                  rw [hget]
                  have : x[0].toNat ≠ 48 := fun e => hz ⟨h1, UInt8.toNat_inj.1 e⟩
                  simp
                  omega
                · exact .inl (by omega)
              have hAt := Lib.hid (atoi_dig Hd2.out.1 Hd2.out.2)
              have Hgood : Hid (goodWord x = decide (digVal x < 1009)) := by
                show _ = _
                by_cases h9 : digVal x < 1009
                · rw [decide_eq_true h9]
                  refine goodWord_iff.2 ⟨Hd2.out.1, Hd2.out.2, fun h1 h2 => ?_, h9⟩
                  rw [List.getElem?_eq_getElem hlen] at h2
                  exact Hz.out ⟨h1, by simpa using h2⟩
                · rw [decide_eq_false h9]
                  cases hgw : goodWord x with
                  | false => rfl
                  | true => exact absurd (goodWord_iff.1 hgw).2.2.2 h9
              clear hz hget
              rcases hcase with h1 | ⟨h1, h2⟩
              all_goals
                go_wp2_with fail
                refine (isDigits_b x _ hxl Hd.out).mono ?_
                rintro e w2 ⟨rfl, rfl⟩
                go_wp2_with fail
                rcases hAt.out with hok | ⟨hr, hbig⟩
                · refine (atoiOk_any x _ _ hxl hok).mono ?_
                  rintro e w3 ⟨rfl, hg3⟩
                  have hown3 := hown.new hg3
                  have hB3 := hB.grown hg3 (by simp)
                  have hg4 := gb_trans hg hg3
                  clear hown hB hg hg3
                  by_cases h9 : digVal x < 1009
                  · have Hall2 : Hid (((cut44 S).take (k + 1)).all goodWord = true) := by
                      show _ = _
                      rw [all_snoc _ Hx.out, Hall.out, Hgood.out, decide_eq_true h9]
                      rfl
                    have Hx2 : Hid (((cut44 S).map fun x => (digVal x : Int)).take (k + 1) = ((cut44 S).map fun x => (digVal x : Int)).take k ++ [(digVal x : Int)]) := by
                      show _ = _
                      obtain ⟨hx1, hx2⟩ := List.getElem?_eq_some_iff.1 Hx.out
                      rw [List.take_succ_eq_append_getElem (by rw [List.length_map]; exact hx1), List.getElem_map, hx2]
                    have hll : (((cut44 S).map fun x => (digVal x : Int)).take k).length ≤ 1000000000 := by
                      rw [List.length_take]
                      omega
                    have hge : ¬ (1009 : Int) ≤ (digVal x : Int) := by omega
                    have hsz9 : w.heap.size + 1 ≤ w3.heap.size := hB3.lt
                    go_wp2_with (at_builtin; go_must (refine wp_push_int (.tmp 59) (.tmp 61) rfl rfl hown3 hll hsz9 rfl rfl ?_))
                    intro v4 w4 hown4 hg5
                    have hg6 := hown3.gb hg4 hg5 (by omega)
                    have hB4 := hB3.grown hg5 (fun e => hown3.notE (by decide) _ e.symm _ hB3)
                    clear hown3 hB3 hg4 hg5
                    go_wp2_with fail
                    go_roundg (n + 1 - (k + 1))
                    case measure => omega
                    case rel => exact ⟨k + 1, by omega, rfl, by go_num, by rw [Hx2.out]; exact hown4, Hall2, hg6, hB4⟩
                  · have hT : Hid (rowFrom S = none) := Hbad.out (by rw [Hgood.out, decide_eq_false h9])
                    have hge : (1009 : Int) ≤ (digVal x : Int) := by omega
                    go_wp2_with fail
                    go_ret2
                    exact ReadPost.bad hT.out (gb_alloc hg4 _) _
                · have hT : Hid (rowFrom S = none) := Hbad.out (by rw [Hgood.out, decide_eq_false (by omega)])
                  refine (atoiBad_any x _ hxl hr hF2).mono ?_
                  rintro e w3 ⟨z, N3, rfl, hg3⟩
                  go_wp2_with fail
                  go_ret2
                  exact ReadPost.bad hT.out (gb_alloc (gb_trans hg hg3) _) _
          · have hd' : (x.all isDig && decide (x ≠ [])) = false := by simpa using hd
            have Hd := Lib.hid hd'
            have hT : Hid (rowFrom S = none) := Hbad.out (by
              cases hg : goodWord x with
              | false => rfl
              | true =>
                have := goodWord_iff.1 hg
                exact absurd (by simp [this.1, this.2.1]) hd)
            clear hd hd'
            go_wp2_with fail
            refine (isDigits_b x _ hxl Hd.out).mono ?_
            rintro e w2 ⟨rfl, rfl⟩
            go_wp2_with fail
            go_ret2
            exact ReadPost.bad hT.out (gb_alloc hg _) _
        · obtain rfl : k = n := by omega
          have hT : Hid (rowFrom S = some ((cut44 S).map fun x => (digVal x : Int))) := by
            have h1 := Hall.out
            rw [← Hn.out, List.take_length] at h1
            exact rowFrom_good Hs.out h1 Hl6.out
          rw [List.take_of_length_le (by rw [List.length_map]; exact Nat.le_of_eq Hn.out)] at hown
          obtain ⟨A2, n2, c2, rfl⟩ := hown.ri.val
          go_wp2_with fail
          go_ret2
          exact ReadPost.fine hT.out hg (own_lower hown (by omega))
set_option maxHeartbeats 800000 in
set_option maxRecDepth 20000 in
theorem implRowFrom_any (S : List UInt8) (w : World) (hS : S.length ≤ 1048576) (hF : FW w) : Calls Tryz.prog 8 #[.string (bstr S)] w (FromPost w S) := by
  go_enter Tryz.func8, Tryz.ntmps8
  go_wp2_with fail
  refine (readRow_any S w hS hF).mono ?_
  rintro e w1 ⟨hg1, hres⟩
  rcases hres with ⟨hn, g, rfl⟩ | ⟨l, v, hl, rfl, hown⟩
  · have hT := Lib.hid hn
    have hga := World.grownBy_alloc w1 (.cells #[.pointer none] 51) none
    have hB := Blk.new w1 51 #[.pointer none]
    have hF2 := hF.new (gb_trans hg1 hga)
    have hAs := errAs_hit ⟨g, 0, none⟩ ⟨w1.heap.size, 0, none⟩ (.pointer none) _ hF2.e (hB.cell 0) (hB.frozen 0)
    have HA := Lib.hid hAs
    clear hn hAs
    go_wp2_with fail
    refine HA.out.mono ?_
    rintro e w2 ⟨rfl, rfl⟩
    go_wp2_with fail
    go_ret2
    exact ⟨_, by rw [hT.out]; rfl, by rw [hT.out]; exact OwnI.nil _ _, gb_alloc (gb_alloc (gb_alloc (gb_alloc (gb_alloc hg1 _) _) _) _) _⟩
  · have hT := Lib.hid hl
    have hga := World.grownBy_alloc w1 (.cells #[.pointer none] 51) none
    have hown2 := hown.new hga
    clear hl hown
    obtain ⟨A2, n2, c2, rfl⟩ := hown2.ri.val
    go_wp2_with fail
    refine (errAs_nil _ _).mono ?_
    rintro e w2 ⟨rfl, rfl⟩
    go_wp2_with fail
    go_ret2
    exact ⟨_, by rw [hT.out]; rfl, by rw [hT.out]; exact hown2, gb_trans hg1 hga⟩
end Go.Proofs.YthampfkicnakgaaGreatDoor
