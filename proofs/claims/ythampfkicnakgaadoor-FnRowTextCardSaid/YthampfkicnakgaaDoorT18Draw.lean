/- Walks: laws.sameRow, spec.DrawRowFrom; the laws on RowFrom that need no more: laws.FnRowFromNot, laws.FnRowText. -/
import Derived.Test.YthampfkicnakgaaDoorT17Read
import Derived.Test.YthampfkicnakgaaDoorL22RowTextMore
namespace Go.Proofs.YthampfkicnakgaaDoor
open Go.RowKit
theorem sameRow_any (v v' : Value) (l : List Int) (w : World) (h : RI w v l) (h' : RI w v' l) : Calls Tryd.prog 27 #[v, v'] w fun e w' => e = .returned (.bool true) ∧ w.grownBy w' none := by
  obtain ⟨A, n, c, rfl, h2, h3⟩ := h.form'
  obtain ⟨A', n', c', rfl, h2', h3'⟩ := h'.form'
  have hle := h.le
  obtain rfl : n = n' := by omega
  have hn : n ≤ 9223372036854775807 := by omega
  clear h3 h3' hle
  go_enter Tryd.func27, Tryd.ntmps27
  go_wp2_with fail
  go_loopw [5] (fun i wr => ∃ k : Nat, k ≤ n ∧ i = .int .i64 k ∧ w.grownBy wr none) (fun i _ => n - (intOf i).toNat)
  case atStart => exact ⟨0, Nat.zero_le _, rfl, gb_refl _ _⟩
  case round =>
    obtain ⟨k, hk, rfl, hg⟩ := hrel
    have hw := h.new hg
    have hw' := h'.new hg
    by_cases hlt : k < n
    · obtain ⟨g, o, x, rfl, hx, c0⟩ := hw.at_ hlt
      obtain ⟨g', o', x', rfl, hx', c1⟩ := hw'.at_ hlt
      obtain rfl : x = x' := by rw [hx] at hx'; injection hx'
      clear hx hx'
      go_wp2_with fail
      go_quiet (fail)
      go_wp2_with fail
      go_roundw
      case rel => exact ⟨k + 1, by omega, by go_num, gb_drewN hg _⟩
      case measure => simp [intOf]; omega
    · go_wp2_with fail
      go_ret
      exact ⟨rfl, hg⟩
theorem rowTextOf_len (l : List Int) : (rowTextOf l).length ≤ 200 := by
  unfold rowTextOf
  split
  · rename_i hv
    by_cases hl0 : l = []
    · subst hl0; decide
    · rw [← rowPre_all hl0]
      exact rowPre_len hv _
  · simp
/-- The ten texts that are drawn besides. -/
def tenTexts : List (List UInt8) := [[], [49, 44], [44, 49], [48, 49], [49, 48, 48, 57], [49, 32, 50], [45, 45], [49, 44, 50, 44, 51, 44, 52, 44, 53, 44, 54, 44, 55], [45, 49], [49, 48, 48, 56]]
set_option maxHeartbeats 800000 in
set_option maxRecDepth 20000 in
theorem of_any (B0 rb g : Nat) (p : Int) (w : World) (h : Rdr B0 w rb p) (hp0 : 0 ≤ p) (hp : p ≤ 1000) (hb : Blk w g 9 ((tenTexts.map fun s => Value.string (bstr s)).toArray)) :
    Calls Tryd.prog 47 #[.pointer (some ⟨rb, 0, none⟩), .slice (some ⟨g, 0, none⟩) 10 10] w fun e w' => (∃ S, e = .returned (.string (bstr S)) ∧ S.length ≤ 200) ∧ w.grownBy w' (some rb) := by
  go_enter Tryd.func47, Tryd.ntmps47
  go_wp2_with fail
  refine (pick_any B0 rb p 10 _ h hp0 (by omega)).mono ?_
  rintro e w1 ⟨r, rfl, hr, _, hrd, hg⟩
  have h1 := hr (by omega)
  have hne : some g ≠ some rb := fun e => by
    obtain ⟨bv, hbb⟩ := h.blk
    cases e
    exact hb.ne_ hbb (by decide) rfl
  have hb1 := hb.grown hg hne
  obtain ⟨k, rfl⟩ := Int.eq_ofNat_of_zero_le h1.1
  have hk : k < 10 := by omega
  obtain ⟨S, hS, hl⟩ : ∃ S : List UInt8, w1.cell? ⟨g, k, none⟩ = some (.string (bstr S)) ∧ S.length ≤ 200 := by
    refine ⟨tenTexts[k], ?_, ?_⟩
    · rw [hb1.cell k, List.getElem?_toArray, List.getElem?_map, List.getElem?_eq_getElem (show k < tenTexts.length from hk)]
      rfl
    · have : ∀ i : Fin 10, (tenTexts[i.val]'i.isLt).length ≤ 200 := by decide
      exact this ⟨k, hk⟩
  clear hb1 hb hr h1
  go_wp2_with fail
  go_ret
  exact ⟨⟨S, rfl, hl⟩, hg⟩
def DrawnText (w : World) (e : Ending) (w' : World) : Prop := ∃ S, e = .returned (.string (bstr S)) ∧ S.length ≤ 200 ∧ w.grownBy w' none
set_option maxHeartbeats 800000 in
set_option maxRecDepth 20000 in
theorem drawRowFrom_any (w : World) (v : Value) (n : Nat) (h : Bytes w w.heap.size v n) (hn : n ≤ 1048576) : Calls Tryd.prog 26 #[v] w (DrawnText w) := by
  obtain ⟨A, c, rfl, h2⟩ := id h
  go_enter Tryd.func26, Tryd.ntmps26
  go_wp2_with fail
  refine (l6Open_any _ _ n (by exact h) hn).mono ?_
  rintro e w1 ⟨rb, rfl, hrd, hg⟩
  have hrb := hrd.le
  go_wp2_with fail
  refine (pick_any w.heap.size rb 0 _ _ (by exact hrd) (by omega) (by omega)).mono ?_
  rintro e w2 ⟨r1, rfl, hr1, _, hrd2, hg2⟩
  have hr1' := hr1 (by omega)
  obtain ⟨m, hm⟩ := Int.eq_ofNat_of_zero_le hr1'.1
  subst hm
  have hm7 : m ≤ 7 := by omega
  go_wp2_with fail
  refine (l91Row_any w.heap.size rb _ m _ hrd2 (by omega) (by omega) (by omega)).mono ?_
  rintro e w3 ⟨v3, l, rfl, hri, hlen, -, p', hp1, hp2, hrd3, hg3⟩
  obtain ⟨A3, n3, c3, rfl⟩ := hri.val
  have g3 : w.grownBy w3 none := gb_new (gb_new hg hg2 (fun g e => by cases e; exact .inl hrb)) hg3 (fun g e => by cases e; exact .inl hrb)
  clear hg hg2 hg3 hrd hrd2 hr1 hlen
  go_wp2_with fail
  refine (specRowText_any _ l _ hri).mono ?_
  rintro e w4 ⟨rfl, hg4⟩
  have hrd4 := hrd3.new hg4
  have g4 := gb_trans g3 hg4
  have hlen := rowTextOf_len l
  clear g3 hg4 hrd3 hri
  generalize rowTextOf l = T at *
  have lit : ∀ (W : World), Blk (W.alloc (.cells #[.string ⟨#[]⟩, .string ⟨#[49, 44]⟩, .string ⟨#[44, 49]⟩, .string ⟨#[48, 49]⟩, .string ⟨#[49, 48, 48, 57]⟩, .string ⟨#[49, 32, 50]⟩, .string ⟨#[45, 45]⟩, .string ⟨#[49, 44, 50, 44, 51, 44, 52, 44, 53, 44, 54, 44, 55]⟩, .string ⟨#[45, 49]⟩, .string ⟨#[49, 48, 48, 56]⟩] 9)) W.heap.size 9 ((tenTexts.map fun s => Value.string (bstr s)).toArray) := fun W => Blk.new W _ _
  by_cases hT : T = []
  · have he : (bstr T).toList.isEmpty = true := by rw [bstr_toList, hT]; rfl
    clear hT
    go_wp2_with fail
    refine (of_any w.heap.size rb w4.heap.size p' _ (by exact hrd4.new (World.grownBy_alloc _ _ _)) (by omega) (by omega) (by exact lit w4)).mono ?_
    rintro e w5 ⟨⟨S, rfl, hS⟩, hg5⟩
    go_wp2_with fail
    go_ret
    exact ⟨S, rfl, hS, gb_new (gb_alloc g4 _) hg5 (fun g e => by cases e; exact .inl hrb)⟩
  · have he : (bstr T).toList.isEmpty = false := by
      rw [bstr_toList]
      cases T with
      | nil => exact absurd rfl hT
      | cons x r => rfl
    clear hT
    go_wp2_with fail
    refine (pick_any w.heap.size rb _ _ _ (by exact hrd4) (by omega) (by omega)).mono ?_
    rintro e w5 ⟨r5, rfl, -, _, hrd5, hg5⟩
    have g5 : w.grownBy w5 none := gb_new g4 hg5 (fun g e => by cases e; exact .inl hrb)
    by_cases h5 : r5 = 0
    · subst h5
      go_wp2_with fail
      refine (of_any w.heap.size rb w5.heap.size _ _ (by exact hrd5.new (World.grownBy_alloc _ _ _)) (by omega) (by omega) (by exact lit w5)).mono ?_
      rintro e w6 ⟨⟨S, rfl, hS⟩, hg6⟩
      go_wp2_with fail
      go_ret
      exact ⟨S, rfl, hS, gb_new (gb_alloc g5 _) hg6 (fun g e => by cases e; exact .inl hrb)⟩
    · have hb5 : (r5 == 0) = false := by simpa using h5
      go_wp2_with fail
      go_ret
      exact ⟨T, rfl, hlen, g5⟩
theorem cut44_snoc (l : List UInt8) : cut44 (l ++ [44]) = cut44 l ++ [[]] := by
  induction l with
  | nil => rfl
  | cons c r ih =>
    rw [List.cons_append, cut44, cut44, ih]
    obtain ⟨x, t, e⟩ : ∃ x t, cut44 r = x :: t := by
      cases hc : cut44 r with
      | nil => exact absurd hc (cut44_ne r)
      | cons x t => exact ⟨x, t, rfl⟩
    rw [e]
    split <;> rfl
theorem rowFrom_comma (S : List UInt8) : rowFrom (S ++ [44]) = none := by
  have hs : S ++ [44] ≠ [45] := by
    intro e
    have := congrArg List.getLast? e
    simp at this
  have hx : (cut44 (S ++ [44]))[(cut44 S).length]? = some [] := by rw [cut44_snoc]; simp
  exact rowFrom_bad hs hx rfl
theorem rowFrom_blank (S : List UInt8) : rowFrom (32 :: S) = none := by
  cases h : rowFrom (32 :: S) with
  | none => rfl
  | some l =>
    exfalso
    obtain ⟨h1, h2⟩ := rowFrom_text h
    exact (rowText_mem h1 32 (by rw [h2]; simp)).1 rfl
set_option maxHeartbeats 800000 in
set_option maxRecDepth 20000 in
theorem fnRowFromNot_any (w : World) (v : Value) (n : Nat) (h : Bytes w w.heap.size v n) (hn : n ≤ 9223372036854775807) (_hp : PTab w) (hF : FW w) :
    Calls Tryd.prog 9 #[v] w fun e w' => e = .returned (.bool true) ∧ w.grownBy w' none := by
  obtain ⟨A, c, rfl, h2⟩ := id h
  have H := Lib.hid h
  clear h h2
  by_cases hbig : 1048576 < n
  · go_enter Tryd.func9, Tryd.ntmps9
    go_wp2_with fail
    go_ret
    exact ⟨rfl, gb_refl _ _⟩
  · go_enter Tryd.func9, Tryd.ntmps9
    go_wp2_with fail
    refine (drawRowFrom_any _ _ n H.out (by omega)).mono ?_
    rintro e w1 ⟨S, rfl, hS, g1⟩
    go_wp2_with fail
    refine (implRowFrom_any S w1 (by omega) (hF.new g1)).mono ?_
    rintro e w2 ⟨v2, rfl, ho2, hg2⟩
    have g2 := gb_trans g1 hg2
    obtain ⟨A2, n2, c2, rfl⟩ := ho2.ri.val
    go_wp2_with fail
    refine (specRowFrom_any S w2 (by omega)).mono ?_
    rintro e w3 ⟨v3, rfl, ho3, hg3⟩
    have g3 := gb_trans g2 hg3
    have ho2' := ho2.new hg3
    obtain ⟨A3, n3, c3, rfl⟩ := ho3.ri.val
    clear g1 hg2 g2 hg3 ho2
    cases hr : rowFrom S with
    | none =>
      rw [hr] at ho2' ho3
      go_wp2_with fail
      refine (sameRow_any _ _ _ w3 ho2'.ri ho3.ri).mono ?_
      rintro e w4 ⟨rfl, hg4⟩
      go_wp2_with fail
      refine (sameRow_any _ _ _ w4 (ho2'.new hg4).ri (ho3.new hg4).ri).mono ?_
      rintro e w5 ⟨rfl, hg5⟩
      go_wp2_with fail
      go_ret
      exact ⟨rfl, gb_trans (gb_trans g3 hg4) hg5⟩
    | some l =>
      rw [hr] at ho2' ho3
      have h1 := rowFrom_comma S
      have h2 := rowFrom_blank S
      have H1 := Lib.hid h1
      have H2 := Lib.hid h2
      have hap : bstr S ++ (⟨#[44]⟩ : ByteArray) = bstr (S ++ [44]) := bstr_append S [44]
      have hap2 : (⟨#[32]⟩ : ByteArray) ++ bstr S = bstr (32 :: S) := bstr_append [32] S
      have hs1 : ¬ (9223372036854775807 < (bstr S).size + (⟨#[44]⟩ : ByteArray).size) := no_long (b := [44]) (by simp; omega)
      have hs2 : ¬ (9223372036854775807 < (⟨#[32]⟩ : ByteArray).size + (bstr S).size) := no_long (a := [32]) (by simp; omega)
      clear h1 h2
      go_wp2_with fail
      refine (sameRow_any _ _ _ w3 ho2'.ri ho3.ri).mono ?_
      rintro e w4 ⟨rfl, hg4⟩
      have g4 := gb_trans g3 hg4
      clear ho2' ho3 hg4 g3
      go_wp2_with fail
      refine (implRowFrom_any (S ++ [44]) w4 (by simp; omega) (hF.new g4)).mono ?_
      rintro e w5 ⟨v5, rfl, ho5, hg5⟩
      rw [H1.out] at ho5 ⊢
      have g5 := gb_trans g4 hg5
      obtain ⟨A5, n5, c5, rfl⟩ := ho5.ri.val
      go_wp2_with fail
      refine (implRowFrom_any (32 :: S) w5 (by simp; omega) (hF.new g5)).mono ?_
      rintro e w6 ⟨v6, rfl, ho6, hg6⟩
      rw [H2.out] at ho6 ⊢
      obtain ⟨A6, n6, c6, rfl⟩ := ho6.ri.val
      go_wp2_with fail
      go_ret
      exact ⟨rfl, gb_trans g5 hg6⟩
set_option maxHeartbeats 800000 in
set_option maxRecDepth 20000 in
theorem fnRowText_any (w : World) (v : Value) (n : Nat) (h : Bytes w w.heap.size v n) (hn : n ≤ 9223372036854775807) (hp : PTab w) (hF : FW w) :
    Calls Tryd.prog 10 #[v] w fun e w' => e = .returned (.bool true) ∧ w.grownBy w' none := by
  obtain ⟨A, c, rfl, h2⟩ := id h
  have H := Lib.hid h
  clear h h2
  by_cases hbig : 1048576 < n
  · go_enter Tryd.func10, Tryd.ntmps10
    go_wp2_with fail
    go_ret
    exact ⟨rfl, gb_refl _ _⟩
  · go_enter Tryd.func10, Tryd.ntmps10
    go_wp2_with fail
    refine (drawRowText_any _ _ n H.out (by omega)).mono ?_
    rintro e w1 ⟨v1, l, rfl, hr1, hl7, hg1⟩
    obtain ⟨A1, n1, c1, rfl⟩ := hr1.val
    go_wp2_with fail
    refine (implRowText_any _ l _ hr1 (hp.new hg1)).mono ?_
    rintro e w2 ⟨rfl, hg2⟩
    have g2 := gb_trans hg1 hg2
    have hr2 := hr1.new hg2
    go_wp2_with fail
    refine (specRowText_any _ l _ hr2).mono ?_
    rintro e w3 ⟨rfl, hg3⟩
    have g3 := gb_trans g2 hg3
    have hr3 := hr2.new hg3
    by_cases hv : rowValid l = true
    · have hne : (bstr (rowTextOf l)).toList.isEmpty = false := bstr_isEmpty (fun e0 => by rw [rowTextOf_nil, hv] at e0; cases e0)
      have hlen := rowTextOf_len l
      have HT : Hid (rowFrom (rowTextOf l) = some l) := by
        show _ = _
        unfold rowTextOf
        rw [if_pos hv]
        exact rowFrom_of hv
      clear hv
      go_wp2_with fail
      refine (implRowFrom_any (rowTextOf l) w3 (by omega) (hF.new g3)).mono ?_
      rintro e w4 ⟨v4, rfl, ho4, hg4⟩
      rw [HT.out] at ho4 ⊢
      obtain ⟨A4, n4, c4, rfl⟩ := ho4.ri.val
      go_wp2_with fail
      refine (sameRow_any _ _ l w4 ho4.ri (hr3.new hg4)).mono ?_
      rintro e w5 ⟨rfl, hg5⟩
      go_wp2_with fail
      go_ret
      exact ⟨rfl, gb_trans (gb_trans g3 hg4) hg5⟩
    · have hv' : rowValid l = false := by simpa using hv
      have hbe : bstr (rowTextOf l) = (⟨#[]⟩ : ByteArray) := by rw [rowTextOf_nil.2 hv']; rfl
      rw [hbe]
      clear hv hv' hbe
      go_wp2_with fail
      go_ret
      exact ⟨rfl, g3⟩
end Go.Proofs.YthampfkicnakgaaDoor
