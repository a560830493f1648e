/- Walks: the laws' copies of rows of rows: sizes, copies, comparisons; rows of rows of the call's own, no two in one block. -/
import Derived.Test.YtjlnhijabdkagaaE4Copy
import Derived.Test.YtjlnhijabdkagaaA6Lists
import Derived.Deep.RegionHeld3
namespace Go.Proofs.Ytjlnhijabdkagaa
open Go.RowKit

/-- A slice of rows that lies below block B0: a part of an argument. -/
def ArgL (B0 : Nat) (w : World) (v : Value) (ll : List (List Int)) : Prop :=
  ∃ A n c, v = .slice A n c ∧ n ≤ c ∧ n = ll.length ∧ n ≤ 9223372036854775807 ∧ ∀ k l, ll[k]? = some l → ∃ g o u, A = some ⟨g, o, none⟩ ∧ g < B0 ∧ w.cell? ⟨g, o + k, none⟩ = some u ∧ ArgI B0 w u l
section
variable {B0 : Nat} {w w' : World} {v : Value} {ll : List (List Int)}
theorem ArgL.kept {row : Option Nat} (h : ArgL B0 w v ll) (hg : w.grownBy w' row) (hB : B0 ≤ w.heap.size) (hr : ∀ g, row = some g → B0 ≤ g) : ArgL B0 w' v ll := by
  obtain ⟨A, n, c, h1, h2, h3, h4, h5⟩ := h
  refine ⟨A, n, c, h1, h2, h3, h4, fun k l hx => ?_⟩
  obtain ⟨g, o, u, k1, k2, k3, k4⟩ := h5 k l hx
  refine ⟨g, o, u, k1, k2, ?_, k4.kept hg hB hr⟩
  rw [gb_cell hg (by show g < _; omega) (fun e => by have := hr _ e; simp at this; omega)]
  exact k3
theorem ArgL.new (h : ArgL B0 w v ll) (hg : w.grownBy w' none) (hB : B0 ≤ w.heap.size) : ArgL B0 w' v ll := h.kept hg hB (fun _ e => by cases e)
theorem ArgL.form (h : ArgL B0 w v ll) : ∃ A n c, v = .slice A n c ∧ n ≤ c ∧ n = ll.length ∧ n ≤ 9223372036854775807 := by
  obtain ⟨A, n, c, h1, h2, h3, h4, _⟩ := h
  exact ⟨A, n, c, h1, h2, h3, h4⟩
theorem ArgL.at_ {A : Option Addr} {n c k : Nat} (h : ArgL B0 w (.slice A n c) ll) (hk : k < n) : ∃ g o l u, A = some ⟨g, o, none⟩ ∧ g < B0 ∧ ll[k]? = some l ∧ w.cell? ⟨g, o + k, none⟩ = some u ∧ ArgI B0 w u l := by
  obtain ⟨A', n', c', h1, h2, h3, h4, h5⟩ := h
  injection h1 with e1 e2 e3
  subst e1 e2 e3
  have hx : ll[k]? = some ll[k] := List.getElem?_eq_getElem (by omega)
  obtain ⟨g, o, u, k1, k2, k3, k4⟩ := h5 k _ hx
  exact ⟨g, o, _, u, k1, k2, hx, k3, k4⟩
end

/-- No two of the values have one block. -/
def Apart (ys : List Value) : Prop := ys.Pairwise fun u u' => ∀ g, u.ownBlock = some g → u'.ownBlock ≠ some g
theorem Apart.iff {ys : List Value} : Apart ys ↔ ∀ (i j : Nat) (u u' : Value) (g : Nat), i < j → ys[i]? = some u → ys[j]? = some u' → u.ownBlock = some g → u'.ownBlock ≠ some g := by
  unfold Apart
  rw [List.pairwise_iff_getElem]
  constructor
  · intro h i j u u' g hij hu hu' hg
    obtain ⟨a1, rfl⟩ := List.getElem?_eq_some_iff.1 hu
    obtain ⟨b1, rfl⟩ := List.getElem?_eq_some_iff.1 hu'
    exact h i j a1 b1 hij g hg
  · intro h i j hi hj hij g hg
    exact h i j _ _ g hij (List.getElem?_eq_getElem hi) (List.getElem?_eq_getElem hj) hg
theorem Apart.set {xs : List Value} {k s : Nat} {f : Value} (h : Apart xs) (hlt : ∀ u ∈ xs, ∀ g, u.ownBlock = some g → g < s) (hf : ∀ g, f.ownBlock = some g → s ≤ g) : Apart (xs.set k f) := by
  rw [Apart.iff] at *
  intro i j u u' g hij hu hu' hg hg'
  rw [List.getElem?_set] at hu hu'
  split at hu
  · split at hu
    · cases hu
      rw [if_neg (by omega)] at hu'
      have := hlt u' (List.mem_of_getElem? hu') g hg'
      have := hf g hg
      omega
    · cases hu
  · split at hu'
    · split at hu'
      · cases hu'
        have := hlt u (List.mem_of_getElem? hu) g hg
        have := hf g hg'
        omega
      · cases hu'
    · exact h i j u u' g hij hu hu' hg hg'
theorem Apart.nils (n : Nat) : Apart (List.replicate n (.slice none 0 0)) := by
  rw [Apart.iff]
  intro i j u u' g _ hu _ hg
  rw [List.getElem?_replicate] at hu
  split at hu
  · cases hu
    cases hg
  · cases hu
theorem Apart.join {xs ys : List Value} {s : Nat} (h1 : Apart xs) (h2 : Apart ys) (hx : ∀ u ∈ xs, ∀ g, u.ownBlock = some g → g < s) (hy : ∀ u ∈ ys, ∀ g, u.ownBlock = some g → s ≤ g) : Apart (xs ++ ys) := by
  unfold Apart at *
  rw [List.pairwise_append]
  refine ⟨h1, h2, fun a ha b hb g hg hg' => ?_⟩
  have := hx a ha g hg
  have := hy b hb g hg'
  omega
theorem Apart.one (u : Value) : Apart [u] := List.pairwise_singleton _ _
theorem Apart.left {xs ys : List Value} (h : Apart (xs ++ ys)) : Apart xs := (List.pairwise_append.1 h).1
theorem Apart.right {xs ys : List Value} (h : Apart (xs ++ ys)) : Apart ys := (List.pairwise_append.1 h).2.1

/-- A row of rows of the call's own, with its elements' values. -/
def LX (w : World) (base : Nat) (v : Value) (ll : List (List Int)) (xs : List Value) : Prop :=
  w.ownsRow base 27 1 v ll.length xs ∧ ∀ (i : Nat) (l : List Int), ll[i]? = some l → ∃ u, xs[i]? = some u ∧ OwnI w base u l
/-- A row of rows, all of the call's own, no two in one block. -/
def OwnLO (w : World) (base : Nat) (v : Value) (ll : List (List Int)) : Prop := ∃ xs, LX w base v ll xs ∧ Apart xs
section
variable {w w' : World} {v : Value} {ll : List (List Int)} {base : Nat} {row : Option Nat} {xs : List Value}
theorem LX.grown (h : LX w base v ll xs) (hg : w.grownBy w' row) (hr : NotE w 3 row) (hr' : NotE w 27 row) : LX w' base v ll xs := by
  refine ⟨own_grown h.1 hg hr', fun i l hi => ?_⟩
  obtain ⟨u, k1, k2⟩ := h.2 i l hi
  exact ⟨u, k1, k2.grown hg hr⟩
theorem LX.new (h : LX w base v ll xs) (hg : w.grownBy w' none) : LX w' base v ll xs := h.grown hg (NotE.none _ _) (NotE.none _ _)
theorem LX.rl (h : LX w base v ll xs) : RL w v ll := ⟨xs, TS.of_own h.1, fun i l hi => let ⟨u, k1, k2⟩ := h.2 i l hi; ⟨u, k1, k2.ri⟩⟩
theorem LX.lt (h : LX w base v ll xs) : ∀ g, v.ownBlock = some g → base ≤ g ∧ g < w.heap.size := World.ownsRow.lt h.1
theorem LX.len (h : LX w base v ll xs) : xs.length = ll.length := by have := h.1.1; omega
theorem LX.lts (h : LX w base v ll xs) : ∀ u ∈ xs, ∀ g, u.ownBlock = some g → base ≤ g ∧ g < w.heap.size := by
  intro u hu g hg
  obtain ⟨i, hi, rfl⟩ := List.getElem_of_mem hu
  have hl := h.len
  obtain ⟨u', k1, k2⟩ := h.2 i _ (List.getElem?_eq_getElem (by omega))
  rw [List.getElem?_eq_getElem hi] at k1
  cases k1
  exact k2.lt g hg
theorem LX.nil (w : World) (base : Nat) : LX w base (.slice none 0 0) [] [] := ⟨World.ownsRow_nil _ _ _ _, fun i nd h => by simp at h⟩
theorem LX.low {a b : Nat} (h : LX w a v ll xs) (hab : b ≤ a) : LX w b v ll xs := by
  refine ⟨⟨h.1.1, ?_⟩, fun i l hi => let ⟨u, k1, k2⟩ := h.2 i l hi; ⟨u, k1, k2.lower hab⟩⟩
  rcases h.1.2 with h0 | ⟨g, cap, cur, h1, h2, h3⟩
  · exact .inl h0
  · exact .inr ⟨g, cap, cur, h1, Nat.le_trans hab h2, h3⟩
theorem OwnLO.grown (h : OwnLO w base v ll) (hg : w.grownBy w' row) (hr : NotE w 3 row) (hr' : NotE w 27 row) : OwnLO w' base v ll := let ⟨xs, h1, h2⟩ := h; ⟨xs, h1.grown hg hr hr', h2⟩
theorem OwnLO.new (h : OwnLO w base v ll) (hg : w.grownBy w' none) : OwnLO w' base v ll := h.grown hg (NotE.none _ _) (NotE.none _ _)
theorem OwnLO.rl (h : OwnLO w base v ll) : RL w v ll := let ⟨_, h1, _⟩ := h; h1.rl
theorem OwnLO.lt (h : OwnLO w base v ll) : ∀ g, v.ownBlock = some g → base ≤ g ∧ g < w.heap.size := let ⟨_, h1, _⟩ := h; h1.lt
theorem OwnLO.nil (w : World) (base : Nat) : OwnLO w base (.slice none 0 0) [] := ⟨[], LX.nil _ _, .nil⟩
theorem OwnLO.low {a b : Nat} (h : OwnLO w a v ll) (hab : b ≤ a) : OwnLO w b v ll := let ⟨xs, h1, h2⟩ := h; ⟨xs, h1.low hab, h2⟩
end
theorem LX.cell {w : World} {base g n cap k : Nat} {ll : List (List Int)} {xs : List Value} (h : LX w base (.slice (some ⟨g, 0, none⟩) n cap) ll xs) (hk : k < ll.length) : ∃ u, w.cell? ⟨g, k, none⟩ = some u ∧ w.frozen? ⟨g, k, none⟩ = false := by
  rcases h.1.2 with ⟨e0, hz⟩ | ⟨g', cap', cur, e0, hb, hh, hn, hm, hcs, ht⟩
  · cases e0
  · injection e0 with e1 e2 e3
    injection e1 with e1
    injection e1 with e1
    subst e1 e3
    have hB : Blk w g 27 cur := hh
    refine ⟨cur[k]'(by rw [hcs]; omega), ?_, hB.frozen _⟩
    rw [hB.cell]
    exact Array.getElem?_eq_getElem (by rw [hcs]; omega)
theorem LX.set_ {w : World} {base g n cap k : Nat} {ll : List (List Int)} {l : List Int} {f : Value} {xs : List Value} (h : LX w base (.slice (some ⟨g, 0, none⟩) n cap) ll xs) (hk : k < ll.length) (hf : OwnI w base f l) :
    LX (w.setCell ⟨g, k, none⟩ f) base (.slice (some ⟨g, 0, none⟩) n cap) (ll.set k l) (xs.set k f) := by
  have hxl := h.len
  obtain ⟨h1, h2⟩ := h
  have hn : n = ll.length := by
    rcases h1.2 with ⟨e0, hz⟩ | ⟨g', cap', cur, e0, _⟩
    · cases e0
    · injection e0
  subst hn
  have s1 := World.ownsRow.stored h1 k f
  have hne : NotE w 3 (some g) := NotE.own (v := .slice (some ⟨g, 0, none⟩) ll.length cap) h1 (by decide)
  refine ⟨by rw [List.length_set]; exact s1.1, fun i x hi => ?_⟩
  by_cases hik : i = k
  · subst hik
    rw [List.getElem?_set_self hk] at hi
    obtain rfl : l = x := by simpa using hi
    exact ⟨f, by rw [List.getElem?_set_self (by omega)], hf.grown s1.2 hne⟩
  · rw [List.getElem?_set_ne (fun e => hik e.symm)] at hi
    obtain ⟨u, k1, k2⟩ := h2 i x hi
    exact ⟨u, by rw [List.getElem?_set_ne (fun e => hik e.symm)]; exact k1, k2.grown s1.2 hne⟩
theorem OwnLO.cell {w : World} {base g n cap k : Nat} {ll : List (List Int)} (h : OwnLO w base (.slice (some ⟨g, 0, none⟩) n cap) ll) (hk : k < ll.length) : ∃ u, w.cell? ⟨g, k, none⟩ = some u ∧ w.frozen? ⟨g, k, none⟩ = false := let ⟨_, h1, _⟩ := h; h1.cell hk
/-- A row made behind the others is put into it. -/
theorem OwnLO.set_ {a w : World} {base g n cap k : Nat} {ll : List (List Int)} {l : List Int} {f : Value} (h : OwnLO a base (.slice (some ⟨g, 0, none⟩) n cap) ll) (hg : a.grownBy w none) (hb : base ≤ a.heap.size) (hk : k < ll.length) (hf : OwnI w a.heap.size f l) :
    OwnLO (w.setCell ⟨g, k, none⟩ f) base (.slice (some ⟨g, 0, none⟩) n cap) (ll.set k l) := by
  obtain ⟨xs, h1, h2⟩ := h
  exact ⟨xs.set k f, (h1.new hg).set_ hk (hf.lower hb), h2.set (fun u hu g hg => (h1.lts u hu g hg).2) (fun g hg => (hf.lt g hg).1)⟩
theorem OwnLO.made {w : World} {base n : Nat} {v : Value} (h : w.ownsRow base 27 1 v n (madeCells (Value.slice none 0 0).cells n).toList) : OwnLO w base v (List.replicate n []) := by
  have hc : (madeCells (Value.slice none 0 0).cells n).toList = List.replicate n (.slice none 0 0) := by
    have hc0 : (Value.slice none 0 0).cells = #[.slice none 0 0] := rfl
    rw [hc0]
    apply List.ext_getElem?
    intro i
    rw [List.getElem?_replicate]
    by_cases hi : i < n
    · simp [madeCells, hi, Nat.mod_one]
    · simp [madeCells, hi]
  rw [hc] at h
  refine ⟨_, ⟨by rw [List.length_replicate]; exact h, fun i l hi => ?_⟩, Apart.nils n⟩
  obtain ⟨hin, rfl⟩ : i < n ∧ l = [] := by
    rw [List.getElem?_replicate] at hi
    split at hi
    · exact ⟨by assumption, by injection hi with e; exact e.symm⟩
    · cases hi
  exact ⟨.slice none 0 0, by simp [hin], OwnI.nil _ _⟩
/-- All of a row of rows is short. -/
def fitsL (ll : List (List Int)) : Prop := ll.length ≤ 1048576 ∧ ∀ l ∈ ll, l.length ≤ 1048576

theorem szIntSS_any (B0 : Nat) (v : Value) (ll : List (List Int)) (left : Int) (w : World) (h : ArgL B0 w v ll) (h0 : 0 ≤ left) (h1 : left ≤ 1048576) :
    Calls Try.prog 62 #[v, .int .i64 left] w fun e w' => SzPost left (fitsL ll) e ∧ w = w' := by
  obtain ⟨A, n, c, rfl, h2, h3, h4⟩ := h.form
  have Hn := Lib.hid h3
  clear h3
  by_cases hn : left < n
  · go_enter Try.func62, Try.ntmps62
    go_wp2_with fail
    go_ret
    exact ⟨⟨-1, rfl, by omega, by omega, fun h => by omega⟩, rfl⟩
  · go_enter Try.func62, Try.ntmps62
    go_wp2_with fail
    go_loop [1, 5] (fun s i => ∃ (k : Nat) (z : Int), k ≤ n ∧ i = .int .i64 k ∧ s = .int .i64 z ∧ 0 ≤ z ∧ z ≤ left ∧ Hid (∀ j l, j < k → ll[j]? = some l → l.length ≤ 1048576)) (fun _ i => n - (intOf i).toNat)
    case atStart => exact ⟨0, left - n, Nat.zero_le _, rfl, rfl, by omega, by omega, fun j nd hj => by omega⟩
    case round =>
      obtain ⟨k, z, hk, rfl, rfl, hz0, hz1, Hall⟩ := hrel
      by_cases hlt : k < n
      · obtain ⟨g, o, l, u, rfl, hgB, hx, c0, hf⟩ := h.at_ hlt
        have Hx := Lib.hid hx
        clear hx
        go_wp2_with fail
        refine (szIntS_any B0 u l z _ hf hz0 (by omega)).mono ?_
        rintro e w1 ⟨⟨y, rfl, hy1, hy2, hy3⟩, rfl⟩
        by_cases hy : 0 ≤ y
        · have h5 := hy3 hy
          have Hall2 : Hid (∀ j l, j < k + 1 → ll[j]? = some l → l.length ≤ 1048576) := by
            intro j nd' hj hx'
            by_cases hjk : j = k
            · subst hjk
              have e := Hx.out
              rw [hx'] at e
              cases e
              omega
            · exact Hall.out j nd' (by omega) hx'
          clear hy3 h5
          go_wp2_with fail
          go_round
          case rel => exact ⟨k + 1, y, by omega, by go_num, rfl, hy, by omega, Hall2⟩
          case measure => simp [intOf]; omega
        · clear hy3
          go_wp2_with fail
          go_ret
          exact ⟨⟨-1, rfl, by omega, by omega, fun h => by omega⟩, rfl⟩
      · obtain rfl : k = n := by omega
        have hfit : Hid (fitsL ll) := by
          refine ⟨by rw [← Hn.out]; omega, fun nd hm => ?_⟩
          obtain ⟨j, hj⟩ := List.mem_iff_getElem?.1 hm
          exact Hall.out j nd (by rw [Hn.out]; exact (List.getElem?_eq_some_iff.1 hj).1) hj
        go_wp2_with fail
        go_ret
        exact ⟨⟨z, rfl, by omega, by omega, fun _ => hfit.out⟩, rfl⟩
def ListsCopy (w : World) (ll : List (List Int)) (e : Ending) (w' : World) : Prop := ∃ v', e = .returned v' ∧ OwnLO w' w.heap.size v' ll ∧ w.grownBy w' none
set_option maxRecDepth 20000 in
theorem toIntSS_any (B0 : Nat) (v : Value) (ll : List (List Int)) (w : World) (h : ArgL B0 w v ll) (hB : B0 ≤ w.heap.size) (hl : fitsL ll) :
    Calls Try.prog 63 #[v] w (ListsCopy w ll) := by
  obtain ⟨A, n, c, rfl, h2, h3, h4⟩ := h.form
  have hn : n ≤ 1048576 := by have := hl.1; omega
  have Hl := Lib.hid hl
  have Hn := Lib.hid h3
  clear h3 hl
  obtain ⟨i0, hi, hz0, hz1, hz2⟩ := info_parts info27
  go_enter Try.func63, Try.ntmps63
  go_wp2_with (at_make; go_must (refine wpList_make_full _ rfl _ _ 45 rfl w.heap.size 27 i0 _ 1 Try.underlying45 hi hz0 hz1 _ _ _ _ n rfl rfl rfl rfl (by rw [hz2]; omega) (by unfold maxLen; omega) (Nat.le_refl _) ?_))
  intro w0 hown0 hg0
  have H0 : Hid (OwnLO w0 w.heap.size (.slice (some ⟨w.heap.size, 0, none⟩) n n) (ll.take 0 ++ List.replicate (n - 0) [])) := by
    have hO : OwnLO w0 w.heap.size (.slice (some ⟨w.heap.size, 0, none⟩) n n) (List.replicate n []) := by
      refine OwnLO.made ?_
      have e : n * 1 = n := Nat.mul_one n
      first | exact hown0 | (rw [e] at hown0; exact hown0) | (simp at hown0; exact hown0)
    exact hO
  clear hown0
  go_wp2_with fail
  go_loopw [4] (fun i wr => ∃ k : Nat, k ≤ n ∧ i = .int .i64 k ∧ Hid (OwnLO wr w.heap.size (.slice (some ⟨w.heap.size, 0, none⟩) n n) (ll.take k ++ List.replicate (n - k) [])) ∧ w.grownBy wr none) (fun i _ => n - (intOf i).toNat)
  case atStart => exact ⟨0, Nat.zero_le _, rfl, H0, hg0⟩
  case round =>
    clear H0 hg0
    obtain ⟨k, hk, rfl, Ho, hg⟩ := hrel
    by_cases hlt : k < n
    · have hw := h.new hg hB
      obtain ⟨g, o, l, u, rfl, hgB, hx, c0, hf⟩ := hw.at_ hlt
      have hsz := hg.size
      have hfr := Hl.out.2 l (List.mem_of_getElem? hx)
      have Hx := Lib.hid hx
      clear hx
      go_wp2_with fail
      refine (toIntS_any B0 u l wr hf (by omega) hfr).mono ?_
      rintro e w4 ⟨f', rfl, hf', hg4⟩
      have hlen : (ll.take k ++ List.replicate (n - k) ([] : List Int)).length = n := by rw [List.length_append, List.length_take, List.length_replicate, ← Hn.out]; omega
      have hD2 := Ho.out.set_ hg4 hsz (by rw [hlen]; exact hlt) hf'
      rw [take_set _ Hx.out Hn.out] at hD2
      obtain ⟨u0, d0, q0⟩ := (Ho.out.new hg4).cell (k := k) (by rw [hlen]; exact hlt)
      have hg5 : w.grownBy (w4.setCell ⟨w.heap.size, k, none⟩ f') none := gb_set (p := ⟨w.heap.size, k, none⟩) (gb_trans hg hg4) (.inl (Nat.le_refl _)) _
      obtain ⟨B1, m1, e1, rfl⟩ := hf'.ri.val
      have HD2 := Lib.hid hD2
      clear hlen Ho hg hD2 hf' hf hw
      go_wp2_with fail
      go_roundw
      case rel => exact ⟨k + 1, by omega, by go_num, HD2, hg5⟩
      case measure => simp [intOf]; omega
    · obtain rfl : k = n := by omega
      have Ho2 : OwnLO wr w.heap.size (.slice (some ⟨w.heap.size, 0, none⟩) k k) ll := by
        have := Ho.out
        rw [Nat.sub_self, List.take_of_length_le (by rw [← Hn.out]; omega)] at this
        simpa using this
      clear Ho
      go_wp2_with fail
      go_ret
      exact ⟨_, rfl, Ho2, hg⟩
set_option maxRecDepth 20000 in
theorem eqIntSS_any (v v' : Value) (ll : List (List Int)) (w : World) (h : RL w v ll) (h' : RL w v' ll) : Calls Try.prog 64 #[v, v'] w fun e w' => e = .returned (.bool true) ∧ w.grownBy w' none := by
  obtain ⟨A, n, c, rfl, h2, h3, h4⟩ := h.form'
  obtain ⟨A', n', c', rfl, h2', h3', h4'⟩ := h'.form'
  obtain rfl : n = n' := by omega
  clear h3 h3'
  go_enter Try.func64, Try.ntmps64
  go_wp2_with fail
  go_loopw [5] (fun i wr => ∃ k : Nat, k ≤ n ∧ i = .int .i64 k ∧ w.grownBy wr none) (fun i _ => n - (intOf i).toNat)
  case atStart => exact ⟨0, Nat.zero_le _, rfl, gb_refl _ _⟩
  case round =>
    obtain ⟨k, hk, rfl, hg⟩ := hrel
    have hw := h.new hg
    have hw' := h'.new hg
    by_cases hlt : k < n
    · obtain ⟨g, o, l, B1, m1, e1, rfl, hx, c0, hf, -, -, -⟩ := hw.at_ hlt
      obtain ⟨g', o', l', B2, m2, e2, rfl, hx', d0, hf', -, -, -⟩ := hw'.at_ hlt
      obtain rfl : l = l' := by rw [hx] at hx'; injection hx'
      clear hx hx'
      go_wp2_with fail
      go_region_held3 (fun w' => w'.cell? ⟨g, o + k, none⟩ = some (.slice B1 m1 e1) ∧ w'.cell? ⟨g', o' + k, none⟩ = some (.slice B2 m2 e2)) (go_keep)
        (first | (go_at_call 37; refine (eqIntS_any _ _ l _ (by exact hf) (by exact hf')).mono ?_; rintro e w' ⟨rfl, hg'⟩; have k0 := hg'.cell (by exact c0) (by simp); have l0 := hg'.cell (by exact d0) (by simp)))
      go_wp2_with fail
      go_roundw
      case rel => exact ⟨k + 1, by omega, by go_num, gb_trans (gb_drew hg) (by assumption)⟩
      case measure => simp [intOf]; omega
    · go_wp2_with fail
      go_ret
      exact ⟨rfl, hg⟩
end Go.Proofs.Ytjlnhijabdkagaa
