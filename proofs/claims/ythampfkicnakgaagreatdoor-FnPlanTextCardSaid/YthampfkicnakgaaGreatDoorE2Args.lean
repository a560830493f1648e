/- Walks: the laws' copies of their arguments: sizes, copies, comparisons of rows of integers. -/
import Derived.Test.YthampfkicnakgaaGreatDoorA3Mem
namespace Go.Proofs.YthampfkicnakgaaGreatDoor
open Go.RowKit

/-- A slice of the integers l that lies below block B0: a part of an argument. -/
def ArgI (B0 : Nat) (w : World) (v : Value) (l : List Int) : Prop :=
  ∃ A n c, v = .slice A n c ∧ n ≤ c ∧ n = l.length ∧ n ≤ 9223372036854775807 ∧ ∀ j x, l[j]? = some x → ∃ g o, A = some ⟨g, o, none⟩ ∧ g < B0 ∧ w.cell? ⟨g, o + j, none⟩ = some (.int .i64 x)
section
variable {B0 : Nat} {w w' : World} {v : Value} {l : List Int}
theorem ArgI.kept {row : Option Nat} (h : ArgI B0 w v l) (hg : w.grownBy w' row) (hB : B0 ≤ w.heap.size) (hr : ∀ g, row = some g → B0 ≤ g) : ArgI B0 w' v l := by
  obtain ⟨A, n, c, h1, h2, h3, h4, h5⟩ := h
  refine ⟨A, n, c, h1, h2, h3, h4, fun j x hx => ?_⟩
  obtain ⟨g, o, k1, k2, k3⟩ := h5 j x hx
  refine ⟨g, o, k1, k2, ?_⟩
  rw [gb_cell hg (by show g < _; omega) (fun e => by have := hr _ e; simp at this; omega)]
  exact k3
theorem ArgI.new (h : ArgI B0 w v l) (hg : w.grownBy w' none) (hB : B0 ≤ w.heap.size) : ArgI B0 w' v l := h.kept hg hB (fun _ e => by cases e)
theorem ArgI.form (h : ArgI B0 w v l) : ∃ A n c, v = .slice A n c ∧ n ≤ c ∧ n = l.length ∧ n ≤ 9223372036854775807 := by
  obtain ⟨A, n, c, h1, h2, h3, h4, _⟩ := h
  exact ⟨A, n, c, h1, h2, h3, h4⟩
theorem ArgI.at_ {A : Option Addr} {n c k : Nat} (h : ArgI B0 w (.slice A n c) l) (hk : k < n) : ∃ g o x, A = some ⟨g, o, none⟩ ∧ g < B0 ∧ l[k]? = some x ∧ w.cell? ⟨g, o + k, none⟩ = some (.int .i64 x) := by
  obtain ⟨A', n', c', h1, h2, h3, h4, h5⟩ := h
  injection h1 with e1 e2 e3
  subst e1 e2 e3
  have hx : l[k]? = some l[k] := List.getElem?_eq_getElem (by omega)
  obtain ⟨g, o, k1, k2, k3⟩ := h5 k _ hx
  exact ⟨g, o, _, k1, k2, hx, k3⟩
theorem lt_of_cell__ {w : World} {a : Addr} {v : Value} (h : w.cell? a = some v) : a.block < w.heap.size := by
  unfold World.cell? at h
  split at h
  · rename_i hb; exact (Array.getElem?_eq_some_iff.1 hb).1
  · cases h
theorem RI.arg (h : RI w v l) : ArgI w.heap.size w v l := by
  obtain ⟨A, n, c, rfl, h2, h3⟩ := h.form'
  refine ⟨A, n, c, rfl, h2, h3, by have := h.le; omega, fun j x hx => ?_⟩
  obtain ⟨g, o, x', rfl, hx', hc⟩ := h.at_ (k := j) (by have := (List.getElem?_eq_some_iff.1 hx).1; omega)
  rw [hx] at hx'
  cases hx'
  exact ⟨g, o, rfl, lt_of_cell__ hc, hc⟩
end
theorem take_set {α : Type} (z : α) {l : List α} {k : Nat} {x : α} (h : l[k]? = some x) {n : Nat} (hn : n = l.length) : (l.take k ++ List.replicate (n - k) z).set k x = l.take (k + 1) ++ List.replicate (n - (k + 1)) z := by
  obtain ⟨hk, rfl⟩ := List.getElem?_eq_some_iff.1 h
  apply List.ext_getElem?
  intro i
  rw [List.getElem?_set]
  simp only [List.getElem?_append, List.length_append, List.length_take, List.length_replicate, List.getElem?_take, List.getElem?_replicate]
  rw [Nat.min_eq_left (by omega), Nat.min_eq_left (by omega)]
  rcases Nat.lt_trichotomy i k with hi | hi | hi
  · rw [if_neg (by omega), if_pos hi, if_pos hi, if_pos (by omega), if_pos (by omega)]
  · subst hi
    rw [if_pos rfl, if_pos (by omega), if_pos (by omega), if_pos (by omega)]
    exact (List.getElem?_eq_getElem hk).symm
  · rw [if_neg (by omega), if_neg (by omega), if_neg (show ¬ i < k + 1 by omega)]
    by_cases h2 : i < n
    · rw [if_pos (by omega), if_pos (by omega)]
    · rw [if_neg (by omega), if_neg (by omega)]
theorem slice_block {a b : Addr} {n c n' c' : Nat} (h : Value.slice (some a) n c = .slice (some b) n' c') : a.block = b.block := by
  injection h with e
  injection e with e
  rw [e]
/-- What a size law answers: at most what was left; where it is not negative, all fits. -/
def SzPost (left : Int) (fits : Prop) (e : Ending) : Prop := ∃ z : Int, e = .returned (.int .i64 z) ∧ z ≤ left ∧ -1 ≤ z ∧ (0 ≤ z → fits)

/-- The size law of a row: what is left, or -1. -/
theorem szIntS_any (B0 : Nat) (v : Value) (l : List Int) (left : Int) (w : World) (h : ArgI B0 w v l) (h0 : 0 ≤ left) (h1 : left ≤ 1048576) :
    Calls Tryz.prog 71 #[v, .int .i64 left] w fun e w' => SzPost left ((l.length : Int) ≤ left) e ∧ w = w' := by
  obtain ⟨A, n, c, rfl, h2, h3, h4⟩ := h.form
  rw [← h3]
  clear h3 h
  by_cases hn : left < n
  · go_enter Tryz.func71, Tryz.ntmps71
    go_wp2_with fail
    go_ret
    exact ⟨⟨_, rfl, by omega, by omega, by omega⟩, rfl⟩
  · go_enter Tryz.func71, Tryz.ntmps71
    go_wp2_with fail
    go_ret
    exact ⟨⟨left - n, rfl, by omega, by omega, fun _ => by first | trivial | omega⟩, rfl⟩

def IntsPost (w : World) (l : List Int) (e : Ending) (w' : World) : Prop := ∃ v', e = .returned v' ∧ OwnI w' w.heap.size v' l ∧ w.grownBy w' none
theorem toIntS_any (B0 : Nat) (v : Value) (l : List Int) (w : World) (h : ArgI B0 w v l) (hB : B0 ≤ w.heap.size) (hl : l.length ≤ 1048576) :
    Calls Tryz.prog 72 #[v] w (IntsPost w l) := by
  obtain ⟨A, n, c, rfl, h2, h3, h4⟩ := h.form
  have hn : n ≤ 1048576 := by omega
  have Hn := Lib.hid h3
  clear h3 hl
  obtain ⟨i0, hi, hz0, hz1, hz2⟩ := info_parts info3
  go_enter Tryz.func72, Tryz.ntmps72
  go_wp2_with (at_make; go_must (refine wpList_make_full _ rfl _ _ 24 rfl w.heap.size 3 i0 _ 1 Tryz.underlying24 hi hz0 hz1 _ _ _ _ n rfl rfl rfl rfl (by rw [hz2]; omega) (by unfold maxLen; omega) (Nat.le_refl _) ?_))
  intro w0 hown0 hg0
  have H0 : Hid (OwnI w0 w.heap.size (.slice (some ⟨w.heap.size, 0, none⟩) n n) (l.take 0 ++ List.replicate (n - 0) 0)) := by
    show OwnI w0 w.heap.size (.slice (some ⟨w.heap.size, 0, none⟩) n n) (l.take 0 ++ List.replicate (n - 0) 0)
    unfold OwnI
    have e : (madeCells #[Value.int .i64 0] n).toList = (l.take 0 ++ List.replicate (n - 0) (0 : Int)).map (.int .i64) := by
      apply List.ext_getElem?
      intro j
      by_cases hj : j < n
      · simp [madeCells, hj, Nat.mod_one]
      · simp [madeCells, hj]
    have hL : (l.take 0 ++ List.replicate (n - 0) (0 : Int)).length = n := by simp
    rw [hL, ← e]
    exact hown0
  clear hown0
  go_wp2_with fail
  go_loopw [4] (fun i wr => ∃ k : Nat, k ≤ n ∧ i = .int .i64 k ∧ Hid (OwnI wr w.heap.size (.slice (some ⟨w.heap.size, 0, none⟩) n n) (l.take k ++ List.replicate (n - k) 0)) ∧ w.grownBy wr none) (fun i _ => n - (intOf i).toNat)
  case atStart => exact ⟨0, Nat.zero_le _, rfl, H0, hg0⟩
  case round =>
    clear H0 hg0
    obtain ⟨k, hk, rfl, Ho, hg⟩ := hrel
    by_cases hlt : k < n
    · have hw := h.new hg hB
      obtain ⟨g, o, x, rfl, hgB, hx, c0⟩ := hw.at_ hlt
      have hlen : (l.take k ++ List.replicate (n - k) (0 : Int)).length = n := by rw [List.length_append, List.length_take, List.length_replicate, ← Hn.out]; omega
      obtain ⟨g', cap', cur, he, _, _, hb, hcs⟩ := Ho.out.form (by omega)
      obtain ⟨y, hy⟩ : ∃ y, (l.take k ++ List.replicate (n - k) (0 : Int))[k]? = some y := ⟨_, List.getElem?_eq_getElem (by omega)⟩
      obtain rfl : w.heap.size = g' := slice_block he
      have c1 := hcs k y hy
      have f1 := hb.frozen k
      have Ho2 : Hid (OwnI (wr.setCell ⟨w.heap.size, k, none⟩ (.int .i64 x)) w.heap.size (.slice (some ⟨w.heap.size, 0, none⟩) n n) (l.take (k + 1) ++ List.replicate (n - (k + 1)) 0)) := by
        show OwnI _ _ _ _
        rw [← take_set 0 hx Hn.out]
        exact Ho.out.set_ hlen.symm k x
      have hg2 : w.grownBy (wr.setCell ⟨w.heap.size, k, none⟩ (.int .i64 x)) none := gb_set (p := ⟨w.heap.size, k, none⟩) hg (.inl (Nat.le_refl _)) _
      clear hx hlen he hb hcs hy Ho hg
      go_wp2_with fail
      go_roundw
      case rel => exact ⟨k + 1, by omega, by go_num, Ho2, hg2⟩
      case measure => simp [intOf]; omega
    · obtain rfl : k = n := by omega
      have Ho2 : OwnI wr w.heap.size (.slice (some ⟨w.heap.size, 0, none⟩) k k) l := by
        have := Ho.out
        rw [Nat.sub_self, List.take_of_length_le (by rw [← Hn.out]; omega)] at this
        simpa using this
      clear Ho
      go_wp2_with fail
      go_ret
      exact ⟨_, rfl, Ho2, hg⟩

/-- Two rows that read alike are the same. -/
theorem eqIntS_any (v v' : Value) (l : List Int) (w : World) (h : RI w v l) (h' : RI w v' l) : Calls Tryz.prog 73 #[v, v'] w fun e w' => e = .returned (.bool true) ∧ w.grownBy w' none := by
  obtain ⟨A, n, c, rfl, h2, h3⟩ := h.form'
  obtain ⟨A', n', c', rfl, h2', h3'⟩ := h'.form'
  have hle := h.le
  obtain rfl : n = n' := by omega
  have hn : n ≤ 9223372036854775807 := by omega
  clear h3 h3' hle
  go_enter Tryz.func73, Tryz.ntmps73
  go_wp2_with fail
  go_loopw [5] (fun i wr => ∃ k : Nat, k ≤ n ∧ i = .int .i64 k ∧ w.grownBy wr none) (fun i _ => n - (intOf i).toNat)
  case atStart => exact ⟨0, Nat.zero_le _, rfl, gb_refl _ _⟩
  case round =>
    obtain ⟨k, hk, rfl, hg⟩ := hrel
    have hw := h.new hg
    have hw' := h'.new hg
    by_cases hlt : k < n
    · obtain ⟨g, o, x, rfl, hx, c0⟩ := hw.at_ hlt
      obtain ⟨g', o', x', rfl, hx', c1⟩ := hw'.at_ hlt
      obtain rfl : x = x' := by rw [hx] at hx'; injection hx'
      clear hx hx'
      go_wp2_with fail
      go_quiet (fail)
      go_wp2_with fail
      go_roundw
      case rel => exact ⟨k + 1, by omega, by go_num, gb_drewN hg _⟩
      case measure => simp [intOf]; omega
    · go_wp2_with fail
      go_ret
      exact ⟨rfl, hg⟩
end Go.Proofs.YthampfkicnakgaaGreatDoor
