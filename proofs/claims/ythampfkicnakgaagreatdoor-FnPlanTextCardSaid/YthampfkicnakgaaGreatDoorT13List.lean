/- Walks: numbers as texts: strconv.Itoa, strings.Join by their contracts; impl.listText, impl.RowText. -/
import Derived.Test.YthampfkicnakgaaGreatDoorT12Row
import Derived.Test.YthampfkicnakgaaGreatDoorShelf
import Derived.Test.YthampfkicnakgaaGreatDoorE2Args
import Derived.Test.YthampfkicnakgaaGreatDoorC3Fits
import Derived.Lib.AppendIntMem
namespace Go.Proofs.YthampfkicnakgaaGreatDoor
open Go.RowKit

theorem info9 : (Tryz.prog.info? 9).map (fun i => (i.zero, i.size, i.bytes)) = some (some (.string ⟨#[]⟩), 1, 16) := by kernel_rfl
/-- The library's table of powers of ten is there. -/
def PTab (w : World) : Prop := Lib.TabIs Tryz.prog w "internal/strconv.uint64pow10" .u64 Lib.pow10Tab
theorem PTab.new {w w' : World} (h : PTab w) (hg : w.grownBy w' none) : PTab w' := Lib.tabBelow_of_tabIs h w' (gb_below hg)
theorem gb_grow (w : World) (k : Nat) (os : Array Obj) : w.grownBy (Go.Sort.grow (w.drewN k) os) none :=
  ⟨rfl, rfl, rfl, by rw [Go.Sort.size_grow]; exact Nat.le_add_right _ _, fun i hi _ => Go.Sort.heap_grow_old (w.drewN k) os hi⟩
theorem itoa_any (n : Int) (w : World) (h : PTab w) (h0 : -1000000000000 ≤ n) (h1 : n ≤ 1000000000000) : Calls Tryz.prog 36 #[.int .i64 n] w (StrOut w (Lib.itoa n)) := by
  refine (Tryz.strconv_Itoa n (by omega) (by omega) w h).mono ?_
  rintro e w' ⟨rfl, k, os, rfl⟩
  exact ⟨rfl, gb_grow w k os⟩
/-- A row of strings of the call's own. -/
def OwnS (w : World) (base : Nat) (v : Value) (ss : List (List UInt8)) : Prop := w.ownsRow base 9 1 v ss.length (ss.map fun s => Value.string (bstr s))
theorem OwnS.new {w w' : World} {base : Nat} {v : Value} {ss : List (List UInt8)} (h : OwnS w base v ss) (hg : w.grownBy w' none) : OwnS w' base v ss := own_grown h hg (NotE.none _ _)
theorem OwnS.set_ {w : World} {base g n cap : Nat} {ss : List (List UInt8)} (h : OwnS w base (.slice (some ⟨g, 0, none⟩) n cap) ss) (hn : n = ss.length) (j : Nat) (x : List UInt8) : OwnS (w.setCell ⟨g, j, none⟩ (.string (bstr x))) base (.slice (some ⟨g, 0, none⟩) n cap) (ss.set j x) := by
  subst hn
  have k := (World.ownsRow.stored h j (.string (bstr x))).1
  unfold OwnS
  rw [List.length_set, List.map_set]
  exact k
theorem OwnS.cell {w : World} {base g n cap j : Nat} {ss : List (List UInt8)} (h : OwnS w base (.slice (some ⟨g, 0, none⟩) n cap) ss) (hj : j < ss.length) : w.cell? ⟨g, j, none⟩ = some (.string (bstr ss[j])) ∧ w.frozen? ⟨g, j, none⟩ = false ∧ n = ss.length ∧ n ≤ cap ∧ g < w.heap.size := by
  have hlt := World.ownsRow.lt h g rfl
  rcases h.2 with ⟨e0, _⟩ | ⟨g', cap', cur, e0, hb, hh, hn, _, _, ht⟩
  · cases e0
  · injection e0 with e1 e2 e3
    injection e1 with e1
    injection e1 with e1
    subst e1 e2 e3
    have hc := World.ownsRow.cellAt (g := g) (cap := cap) h j (by omega)
    exact ⟨by rw [hc]; simp [hj], Blk.frozen (cs := cur) hh j, rfl, hn, hlt.2⟩
theorem strJoin_any (g n cap base : Nat) (ss : List (List UInt8)) (w : World) (h : OwnS w base (.slice (some ⟨g, 0, none⟩) n cap) ss) (h0 : 0 < ss.length) (hN : ss.length ≤ 1000000) (hl : (Lib.join ss [44]).length ≤ 1000000000) :
    Calls Tryz.prog 56 #[.slice (some ⟨g, 0, none⟩) n cap, .string ⟨#[44]⟩] w (StrOut w (Lib.join ss [44])) := by
  obtain ⟨_, _, hn, hc, hg⟩ := h.cell h0
  have hm : (ss.map bstr).map (fun s : ByteArray => s.data.toList) = ss := by
    rw [List.map_map]
    conv => rhs; rw [← List.map_id ss]
    exact List.map_congr_left (fun s _ => by simp [bstr])
  have hx : (ss.map bstr).length = n := by rw [List.length_map]; exact hn.symm
  have key := Tryz.strings_Join g 0 cap (ss.map bstr) ⟨#[44]⟩ w (fun j x hj => by
    rw [List.getElem?_map] at hj
    obtain ⟨s, hs, rfl⟩ := Option.map_eq_some_iff.1 hj
    obtain ⟨hjl, rfl⟩ := List.getElem?_eq_some_iff.1 hs
    rw [Nat.zero_add]
    exact (h.cell hjl).1) hg (by rw [List.length_map]; omega) (by rw [hx]; exact hc) (by rw [hm]; show (Lib.join ss [44]).length ≤ _; omega)
  rw [hx, hm] at key
  refine key.mono ?_
  rintro e w' ⟨rfl, hb⟩
  exact ⟨rfl, gb_of_below hb none⟩
set_option maxRecDepth 20000 in
theorem listText_any (v : Value) (l : List Int) (w : World) (h : RI w v l) (hp : PTab w) (hl : l.length ≤ 1000) (hb : ∀ x ∈ l, -1000000000000 ≤ x ∧ x ≤ 1000000000000) (hj : (rowText l).length ≤ 1000000000) :
    Calls Tryz.prog 32 #[v] w (StrOut w (rowText l)) := by
  obtain ⟨A, n, c, rfl, _, hn⟩ := h.form'
  have hn1 : n ≤ 1000 := by omega
  have Hn := Lib.hid hn
  have Hb := Lib.hid hb
  have Hj := Lib.hid hj
  by_cases h0 : n = 0
  · have Hr : Hid (rowText l = [45]) := by
      have : l = [] := List.eq_nil_of_length_eq_zero (by omega)
      rw [this]
      rfl
    clear hn hl hb hj
    subst h0
    go_enter Tryz.func32, Tryz.ntmps32
    go_wp2_with fail
    go_ret
    exact ⟨by rw [Hr.out]; rfl, gb_refl _ _⟩
  · have hb0 : ((n : Int) == 0) = false := by simpa using h0
    have Hl0 : Hid (rowText l = Lib.join (l.map Lib.itoa) [44]) := by
      show _ = _
      unfold rowText
      rw [if_neg (by rintro rfl; exact h0 hn)]
    clear hn hl hb hj
    obtain ⟨i0, hi, hz0, hz1, hz2⟩ := info_parts info9
    go_enter Tryz.func32, Tryz.ntmps32
    go_wp2_with (at_make; go_must (refine wpList_make_full _ rfl _ _ 46 rfl w.heap.size 9 i0 _ 1 Tryz.underlying46 hi hz0 hz1 _ _ _ _ n rfl rfl rfl rfl (by rw [hz2]; omega) (by unfold maxLen; omega) (Nat.le_refl _) ?_))
    intro w0 hown0 hg0
    have H0 : Hid (OwnS w0 w.heap.size (.slice (some ⟨w.heap.size, 0, none⟩) n n) ((l.take 0).map Lib.itoa ++ List.replicate (n - 0) [])) := by
      show OwnS w0 w.heap.size (.slice (some ⟨w.heap.size, 0, none⟩) n n) ((l.take 0).map Lib.itoa ++ List.replicate (n - 0) [])
      unfold OwnS
      have e : (madeCells #[Value.string ⟨#[]⟩] n).toList = ((l.take 0).map Lib.itoa ++ List.replicate (n - 0) ([] : List UInt8)).map (fun s => Value.string (bstr s)) := by
        apply List.ext_getElem?
        intro j
        by_cases hj : j < n
        · simp [madeCells, hj, Nat.mod_one, bstr]
        · simp [madeCells, hj]
      have hL : ((l.take 0).map Lib.itoa ++ List.replicate (n - 0) ([] : List UInt8)).length = n := by simp
      rw [hL, ← e]
      exact hown0
    clear hown0
    go_wp2_with fail
    go_loopw [14] (fun i wr => ∃ k : Nat, k ≤ n ∧ i = .int .i64 k ∧ Hid (OwnS wr w.heap.size (.slice (some ⟨w.heap.size, 0, none⟩) n n) ((l.take k).map Lib.itoa ++ List.replicate (n - k) [])) ∧ w.grownBy wr none) (fun i _ => n - (intOf i).toNat)
    case atStart => exact ⟨0, Nat.zero_le _, rfl, H0, hg0⟩
    case round =>
      clear H0 hg0
      obtain ⟨k, hk, rfl, Ho, hg⟩ := hrel
      by_cases hlt : k < n
      · obtain ⟨g, o, x, rfl, hx, c0⟩ := (h.new hg).at_ hlt
        obtain ⟨hx0, hx1⟩ := Hb.out x (List.mem_of_getElem? hx)
        have hpr := hp.new hg
        have Hx := Lib.hid hx
        clear hx
        go_wp2_with fail
        refine (itoa_any x _ hpr hx0 hx1).mono ?_
        rintro e w4 ⟨rfl, hg4⟩
        have hlen : ((l.take k).map Lib.itoa ++ List.replicate (n - k) ([] : List UInt8)).length = n := by rw [List.length_append, List.length_map, List.length_take, List.length_replicate, ← Hn.out]; omega
        have hO4 := Ho.out.new hg4
        obtain ⟨c1', f1, -, -, -⟩ := hO4.cell (j := k) (by rw [hlen]; exact hlt)
        obtain ⟨u1, c1⟩ : ∃ u, w4.cell? ⟨w.heap.size, k, none⟩ = some u := ⟨_, c1'⟩
        clear c1'
        have Ho2 : Hid (OwnS (w4.setCell ⟨w.heap.size, k, none⟩ (.string (bstr (Lib.itoa x)))) w.heap.size (.slice (some ⟨w.heap.size, 0, none⟩) n n) ((l.take (k + 1)).map Lib.itoa ++ List.replicate (n - (k + 1)) [])) := by
          have h1 := hO4.set_ hlen.symm k (Lib.itoa x)
          have e0 : (l.take k).map Lib.itoa = (l.map Lib.itoa).take k := by rw [List.map_take]
          have e1 : (l.take (k + 1)).map Lib.itoa = (l.map Lib.itoa).take (k + 1) := by rw [List.map_take]
          have hx' : (l.map Lib.itoa)[k]? = some (Lib.itoa x) := by rw [List.getElem?_map, Hx.out]; rfl
          rw [e0, take_set [] hx' (by rw [List.length_map]; exact Hn.out), ← e1] at h1
          exact h1
        have hg2 : w.grownBy (w4.setCell ⟨w.heap.size, k, none⟩ (.string (bstr (Lib.itoa x)))) none := gb_set (p := ⟨w.heap.size, k, none⟩) (gb_trans hg hg4) (.inl (Nat.le_refl _)) _
        clear hlen hO4 Ho hg
        go_wp2_with fail
        go_roundw
        case rel => exact ⟨k + 1, by omega, by go_num, Ho2, hg2⟩
        case measure => simp [intOf]; omega
      · obtain rfl : k = n := by omega
        have Ho2 : OwnS wr w.heap.size (.slice (some ⟨w.heap.size, 0, none⟩) k k) (l.map Lib.itoa) := by
          have := Ho.out
          rw [Nat.sub_self, List.take_of_length_le (by rw [← Hn.out]; exact Nat.le_refl _)] at this
          simpa using this
        clear Ho
        go_wp2_with fail
        refine (strJoin_any _ _ _ _ (l.map Lib.itoa) _ Ho2 (by rw [List.length_map, ← Hn.out]; omega) (by rw [List.length_map, ← Hn.out]; omega) (by rw [← Hl0.out]; exact Hj.out)).mono ?_
        rintro e w5 ⟨rfl, hg5⟩
        go_wp2_with fail
        go_ret
        exact ⟨by rw [Hl0.out]; rfl, gb_trans hg hg5⟩
theorem implRowText_any (v : Value) (l : List Int) (w : World) (h : RI w v l) (hp : PTab w) : Calls Tryz.prog 12 #[v] w (StrOut w (rowTextOf l)) := by
  obtain ⟨A, n, c, rfl, _, hn⟩ := h.form'
  by_cases hv : rowValid l = true
  · have Hr : Hid (rowTextOf l = rowText l) := by show _ = _; unfold rowTextOf; rw [if_pos hv]
    have Hv := Lib.hid hv
    have hl := rowValid_len hv
    have hall : ∀ x ∈ l, -1000000000000 ≤ x ∧ x ≤ 1000000000000 := fun x hx => by
      obtain ⟨m, rfl, hm⟩ := row_nat hv hx
      omega
    have hj : (rowText l).length ≤ 1000000000 := by
      by_cases h0 : l = []
      · subst h0; decide
      · rw [← rowPre_all h0]
        have := rowPre_len hv l.length
        omega
    have Hall := Lib.hid hall
    have Hj := Lib.hid hj
    have Hl := Lib.hid hl
    clear hn hv hall hj hl
    go_enter Tryz.func12, Tryz.ntmps12
    go_wp2_with fail
    refine (implRowValid_b _ l _ h Hv.out).mono ?_
    rintro e w1 ⟨rfl, rfl⟩
    go_wp2_with fail
    refine (listText_any _ l _ h hp (by have := Hl.out; omega) Hall.out Hj.out).mono ?_
    rintro e w2 ⟨rfl, hg2⟩
    go_wp2_with fail
    go_ret
    exact ⟨by rw [Hr.out]; rfl, hg2⟩
  · have hv' : rowValid l = false := by simpa using hv
    have Hr : Hid (rowTextOf l = []) := rowTextOf_nil.2 hv'
    have Hv := Lib.hid hv'
    clear hn hv hv'
    go_enter Tryz.func12, Tryz.ntmps12
    go_wp2_with fail
    refine (implRowValid_b _ l _ h Hv.out).mono ?_
    rintro e w1 ⟨rfl, rfl⟩
    go_wp2_with fail
    go_ret
    exact ⟨by rw [Hr.out]; rfl, gb_refl _ _⟩
end Go.Proofs.YthampfkicnakgaaGreatDoor
