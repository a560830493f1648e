/- Walks: laws.sameRow, spec.DrawRowFrom; the laws on RowFrom that need no more: laws.FnRowFromNot, laws.FnRowText. -/
import Derived.Test.YthampfkicnakgaaGreatDoorT17Read
import Derived.Test.YthampfkicnakgaaGreatDoorL22RowTextMore
namespace Go.Proofs.YthampfkicnakgaaGreatDoor
open Go.RowKit
theorem sameRow_any (v v' : Value) (l : List Int) (w : World) (h : RI w v l) (h' : RI w v' l) : Calls Tryz.prog 10 #[v, v'] w fun e w' => e = .returned (.bool true) ∧ w.grownBy w' none := by
  obtain ⟨A, n, c, rfl, h2, h3⟩ := h.form'
  obtain ⟨A', n', c', rfl, h2', h3'⟩ := h'.form'
  have hle := h.le
  obtain rfl : n = n' := by omega
  have hn : n ≤ 9223372036854775807 := by omega
  clear h3 h3' hle
  go_enter Tryz.func10, Tryz.ntmps10
  go_wp2_with fail
  go_loopw [5] (fun i wr => ∃ k : Nat, k ≤ n ∧ i = .int .i64 k ∧ w.grownBy wr none) (fun i _ => n - (intOf i).toNat)
  case atStart => exact ⟨0, Nat.zero_le _, rfl, gb_refl _ _⟩
  case round =>
    obtain ⟨k, hk, rfl, hg⟩ := hrel
    have hw := h.new hg
    have hw' := h'.new hg
    by_cases hlt : k < n
    · obtain ⟨g, o, x, rfl, hx, c0⟩ := hw.at_ hlt
      obtain ⟨g', o', x', rfl, hx', c1⟩ := hw'.at_ hlt
      obtain rfl : x = x' := by rw [hx] at hx'; injection hx'
      clear hx hx'
      go_wp2_with fail
      go_quiet (fail)
      go_wp2_with fail
      go_roundw
      case rel => exact ⟨k + 1, by omega, by go_num, gb_drewN hg _⟩
      case measure => simp [intOf]; omega
    · go_wp2_with fail
      go_ret
      exact ⟨rfl, hg⟩
theorem rowTextOf_len (l : List Int) : (rowTextOf l).length ≤ 200 := by
  unfold rowTextOf
  split
  · rename_i hv
    by_cases hl0 : l = []
    · subst hl0; decide
    · rw [← rowPre_all hl0]
      exact rowPre_len hv _
  · simp
/-- The ten texts that are drawn besides. -/
def tenTexts : List (List UInt8) := [[], [49, 44], [44, 49], [48, 49], [49, 48, 48, 57], [49, 32, 50], [45, 45], [49, 44, 50, 44, 51, 44, 52, 44, 53, 44, 54, 44, 55], [45, 49], [49, 48, 48, 56]]
set_option maxHeartbeats 800000 in
set_option maxRecDepth 20000 in
theorem of_any (B0 rb g : Nat) (p : Int) (w : World) (h : Rdr B0 w rb p) (hp0 : 0 ≤ p) (hp : p ≤ 1000) (hb : Blk w g 9 ((tenTexts.map fun s => Value.string (bstr s)).toArray)) :
    Calls Tryz.prog 24 #[.pointer (some ⟨rb, 0, none⟩), .slice (some ⟨g, 0, none⟩) 10 10] w fun e w' => (∃ S, e = .returned (.string (bstr S)) ∧ S.length ≤ 200) ∧ w.grownBy w' (some rb) := by
  go_enter Tryz.func24, Tryz.ntmps24
  go_wp2_with fail
  refine (pick_any B0 rb p 10 _ h hp0 (by omega)).mono ?_
  rintro e w1 ⟨r, rfl, hr, _, hrd, hg⟩
  have h1 := hr (by omega)
  have hne : some g ≠ some rb := fun e => by
    obtain ⟨bv, hbb⟩ := h.blk
    cases e
    exact hb.ne_ hbb (by decide) rfl
  have hb1 := hb.grown hg hne
  obtain ⟨k, rfl⟩ := Int.eq_ofNat_of_zero_le h1.1
  have hk : k < 10 := by omega
  obtain ⟨S, hS, hl⟩ : ∃ S : List UInt8, w1.cell? ⟨g, k, none⟩ = some (.string (bstr S)) ∧ S.length ≤ 200 := by
    refine ⟨tenTexts[k], ?_, ?_⟩
    · rw [hb1.cell k, List.getElem?_toArray, List.getElem?_map, List.getElem?_eq_getElem (show k < tenTexts.length from hk)]
      rfl
    · have : ∀ i : Fin 10, (tenTexts[i.val]'i.isLt).length ≤ 200 := by decide
      exact this ⟨k, hk⟩
  clear hb1 hb hr h1
  go_wp2_with fail
  go_ret
  exact ⟨⟨S, rfl, hl⟩, hg⟩
def DrawnText (w : World) (e : Ending) (w' : World) : Prop := ∃ S, e = .returned (.string (bstr S)) ∧ S.length ≤ 200 ∧ w.grownBy w' none
set_option maxHeartbeats 800000 in
set_option maxRecDepth 20000 in
theorem drawRowFrom_any (w : World) (v : Value) (n : Nat) (h : Bytes w w.heap.size v n) (hn : n ≤ 1048576) : Calls Tryz.prog 7 #[v] w (DrawnText w) := by
  obtain ⟨A, c, rfl, h2⟩ := id h
  go_enter Tryz.func7, Tryz.ntmps7
  go_wp2_with fail
  refine (l6Open_any _ _ n (by exact h) hn).mono ?_
  rintro e w1 ⟨rb, rfl, hrd, hg⟩
  have hrb := hrd.le
  go_wp2_with fail
  refine (pick_any w.heap.size rb 0 _ _ (by exact hrd) (by omega) (by omega)).mono ?_
  rintro e w2 ⟨r1, rfl, hr1, _, hrd2, hg2⟩
  have hr1' := hr1 (by omega)
  obtain ⟨m, hm⟩ := Int.eq_ofNat_of_zero_le hr1'.1
  subst hm
  have hm7 : m ≤ 7 := by omega
  go_wp2_with fail
  refine (l91Row_any w.heap.size rb _ m _ hrd2 (by omega) (by omega) (by omega)).mono ?_
  rintro e w3 ⟨v3, l, rfl, hri, hlen, -, p', hp1, hp2, hrd3, hg3⟩
  obtain ⟨A3, n3, c3, rfl⟩ := hri.val
  have g3 : w.grownBy w3 none := gb_new (gb_new hg hg2 (fun g e => by cases e; exact .inl hrb)) hg3 (fun g e => by cases e; exact .inl hrb)
  clear hg hg2 hg3 hrd hrd2 hr1 hlen
  go_wp2_with fail
  refine (specRowText_any _ l _ hri).mono ?_
  rintro e w4 ⟨rfl, hg4⟩
  have hrd4 := hrd3.new hg4
  have g4 := gb_trans g3 hg4
  have hlen := rowTextOf_len l
  clear g3 hg4 hrd3 hri
  generalize rowTextOf l = T at *
  have lit : ∀ (W : World), Blk (W.alloc (.cells #[.string ⟨#[]⟩, .string ⟨#[49, 44]⟩, .string ⟨#[44, 49]⟩, .string ⟨#[48, 49]⟩, .string ⟨#[49, 48, 48, 57]⟩, .string ⟨#[49, 32, 50]⟩, .string ⟨#[45, 45]⟩, .string ⟨#[49, 44, 50, 44, 51, 44, 52, 44, 53, 44, 54, 44, 55]⟩, .string ⟨#[45, 49]⟩, .string ⟨#[49, 48, 48, 56]⟩] 9)) W.heap.size 9 ((tenTexts.map fun s => Value.string (bstr s)).toArray) := fun W => Blk.new W _ _
  by_cases hT : T = []
  · have he : (bstr T).toList.isEmpty = true := by rw [bstr_toList, hT]; rfl
    clear hT
    go_wp2_with fail
    refine (of_any w.heap.size rb w4.heap.size p' _ (by exact hrd4.new (World.grownBy_alloc _ _ _)) (by omega) (by omega) (by exact lit w4)).mono ?_
    rintro e w5 ⟨⟨S, rfl, hS⟩, hg5⟩
    go_wp2_with fail
    go_ret
    exact ⟨S, rfl, hS, gb_new (gb_alloc g4 _) hg5 (fun g e => by cases e; exact .inl hrb)⟩
  · have he : (bstr T).toList.isEmpty = false := by
      rw [bstr_toList]
      cases T with
      | nil => exact absurd rfl hT
      | cons x r => rfl
    clear hT
    go_wp2_with fail
    refine (pick_any w.heap.size rb _ _ _ (by exact hrd4) (by omega) (by omega)).mono ?_
    rintro e w5 ⟨r5, rfl, -, _, hrd5, hg5⟩
    have g5 : w.grownBy w5 none := gb_new g4 hg5 (fun g e => by cases e; exact .inl hrb)
    by_cases h5 : r5 = 0
    · subst h5
      go_wp2_with fail
      refine (of_any w.heap.size rb w5.heap.size _ _ (by exact hrd5.new (World.grownBy_alloc _ _ _)) (by omega) (by omega) (by exact lit w5)).mono ?_
      rintro e w6 ⟨⟨S, rfl, hS⟩, hg6⟩
      go_wp2_with fail
      go_ret
      exact ⟨S, rfl, hS, gb_new (gb_alloc g5 _) hg6 (fun g e => by cases e; exact .inl hrb)⟩
    · have hb5 : (r5 == 0) = false := by simpa using h5
      go_wp2_with fail
      go_ret
      exact ⟨T, rfl, hlen, g5⟩
end Go.Proofs.YthampfkicnakgaaGreatDoor
