/- Walks: the laws' copies of entries: sizes, copies, comparisons; entries all of whose parts are the call's own. -/
import Derived.Test.YtjlnhijabdkagaaE8Lists
import Derived.Test.YtjlnhijabdkagaaA12Ents
namespace Go.Proofs.Ytjlnhijabdkagaa
open Go.RowKit
/-- An entry's parts, of the call's own; ys: its rows' values. -/
def EX (w : World) (base : Nat) (rv ov : Value) (e : Ent) (ys : List Value) : Prop := ∃ xs, ys = xs ++ [ov] ∧ LX w base rv e.rows xs ∧ OwnI w base ov e.out
section
variable {w w' : World} {rv ov : Value} {e : Ent} {ys : List Value} {base : Nat} {row : Option Nat}
theorem EX.grown (h : EX w base rv ov e ys) (hg : w.grownBy w' row) (hr : NotE w 3 row) (hr' : NotE w 27 row) : EX w' base rv ov e ys :=
  let ⟨xs, h1, h2, h3⟩ := h; ⟨xs, h1, h2.grown hg hr hr', h3.grown hg hr⟩
theorem EX.new (h : EX w base rv ov e ys) (hg : w.grownBy w' none) : EX w' base rv ov e ys := h.grown hg (NotE.none _ _) (NotE.none _ _)
theorem EX.low {b : Nat} (h : EX w base rv ov e ys) (hb : b ≤ base) : EX w b rv ov e ys := let ⟨xs, h1, h2, h3⟩ := h; ⟨xs, h1, h2.low hb, h3.lower hb⟩
theorem EX.rl (h : EX w base rv ov e ys) : RL w rv e.rows := let ⟨_, _, h2, _⟩ := h; h2.rl
theorem EX.ri (h : EX w base rv ov e ys) : RI w ov e.out := let ⟨_, _, _, h3⟩ := h; h3.ri
theorem EX.lts (h : EX w base rv ov e ys) : ∀ u ∈ ys, ∀ g, u.ownBlock = some g → base ≤ g ∧ g < w.heap.size := by
  obtain ⟨xs, rfl, h2, h3⟩ := h
  intro u hu g hg
  rcases List.mem_append.1 hu with hu | hu
  · exact h2.lts u hu g hg
  · obtain rfl : u = ov := by simpa using hu
    exact h3.lt g hg
end
/-- A row of entries of the call's own, with all their parts. -/
def OwnX (w : World) (base : Nat) (v : Value) (es : List Ent) (yss : List (List Value)) : Prop :=
  ∃ cs, w.ownsRow base 62 3 v es.length cs ∧ yss.length = es.length ∧ ∀ (i : Nat) (e : Ent), es[i]? = some e → ∃ rv ov ys, cs[i * 3]? = some (.int .i64 e.kind) ∧ cs[i * 3 + 1]? = some rv ∧ cs[i * 3 + 2]? = some ov ∧ yss[i]? = some ys ∧ EX w base rv ov e ys
section
variable {w w' : World} {v : Value} {es : List Ent} {yss : List (List Value)} {base : Nat} {row : Option Nat}
theorem OwnX.grown (h : OwnX w base v es yss) (hg : w.grownBy w' row) (hr : NotE w 3 row) (hr' : NotE w 27 row) (hr2 : NotE w 62 row) : OwnX w' base v es yss := by
  obtain ⟨cs, h1, h2, h3⟩ := h
  refine ⟨cs, own_grown h1 hg hr2, h2, fun i e hi => ?_⟩
  obtain ⟨rv, ov, ys, k1, k2, k3, k4, k5⟩ := h3 i e hi
  exact ⟨rv, ov, ys, k1, k2, k3, k4, k5.grown hg hr hr'⟩
theorem OwnX.new (h : OwnX w base v es yss) (hg : w.grownBy w' none) : OwnX w' base v es yss := h.grown hg (NotE.none _ _) (NotE.none _ _) (NotE.none _ _)
theorem OwnX.own (h : OwnX w base v es yss) : OwnE w base v es := by
  obtain ⟨cs, h1, _, h3⟩ := h
  refine ⟨cs, h1, fun i e hi => ?_⟩
  obtain ⟨rv, ov, ys, k1, k2, k3, k4, k5⟩ := h3 i e hi
  exact ⟨rv, ov, k1, k2, k3, k5.rl, k5.ri⟩
theorem OwnX.re (h : OwnX w base v es yss) : RE w v es := h.own.re
theorem OwnX.nil (w : World) (base : Nat) : OwnX w base (.slice none 0 0) [] [] := ⟨[], World.ownsRow_nil _ _ _ _, rfl, fun i nd h => by simp at h⟩
theorem OwnX.low {b : Nat} (h : OwnX w base v es yss) (hab : b ≤ base) : OwnX w b v es yss := by
  obtain ⟨cs, h1, h2, h3⟩ := h
  refine ⟨cs, ⟨h1.1, ?_⟩, h2, fun i e hi => ?_⟩
  · rcases h1.2 with h0 | ⟨g, cap, cur, h1, h2, h3⟩
    · exact .inl h0
    · exact .inr ⟨g, cap, cur, h1, Nat.le_trans hab h2, h3⟩
  · obtain ⟨rv, ov, ys, k1, k2, k3, k4, k5⟩ := h3 i e hi
    exact ⟨rv, ov, ys, k1, k2, k3, k4, k5.low hab⟩
theorem OwnX.lts (h : OwnX w base v es yss) : ∀ u ∈ yss.flatten, ∀ g, u.ownBlock = some g → base ≤ g ∧ g < w.heap.size := by
  obtain ⟨cs, h1, h2, h3⟩ := h
  intro u hu g hg
  obtain ⟨ys, hys, hu⟩ := List.mem_flatten.1 hu
  obtain ⟨i, hi, rfl⟩ := List.getElem_of_mem hys
  obtain ⟨rv, ov, ys, k1, k2, k3, k4, k5⟩ := h3 i _ (List.getElem?_eq_getElem (by omega))
  rw [List.getElem?_eq_getElem hi] at k4
  cases k4
  exact k5.lts u hu g hg
theorem OwnX.lt (h : OwnX w base v es yss) : ∀ g, v.ownBlock = some g → base ≤ g ∧ g < w.heap.size := h.own.lt
theorem OwnX.notE {E : TypeId} (h : OwnX w base v es yss) (hE : E ≠ 62) : NotE w E v.ownBlock := h.own.notE hE
end
theorem OwnX.set_ {w : World} {base g n cap k : Nat} {es : List Ent} {yss : List (List Value)} {e : Ent} {rv ov : Value} {ys : List Value} (h : OwnX w base (.slice (some ⟨g, 0, none⟩) n cap) es yss) (hn : es.length = n) (hk : k < n) (hx : EX w base rv ov e ys) :
    OwnX (((w.setCell ⟨g, k * 3, none⟩ (.int .i64 e.kind)).setCell ⟨g, k * 3 + 1, none⟩ rv).setCell ⟨g, k * 3 + 2, none⟩ ov) base (.slice (some ⟨g, 0, none⟩) n cap) (es.set k e) (yss.set k ys) := by
  subst hn
  obtain ⟨xs, h1, h0, h2⟩ := h
  have s1 := World.ownsRow.stored h1 (k * 3) (.int .i64 e.kind)
  have s2 := World.ownsRow.stored s1.1 (k * 3 + 1) rv
  have s3 := World.ownsRow.stored s2.1 (k * 3 + 2) ov
  have hg : w.grownBy (((w.setCell ⟨g, k * 3, none⟩ (.int .i64 e.kind)).setCell ⟨g, k * 3 + 1, none⟩ rv).setCell ⟨g, k * 3 + 2, none⟩ ov) (some g) := gb_trans (gb_trans s1.2 s2.2) s3.2
  have hne : NotE w 3 (some g) := NotE.own (v := .slice (some ⟨g, 0, none⟩) es.length cap) h1 (by decide)
  have hne2 : NotE w 27 (some g) := NotE.own (v := .slice (some ⟨g, 0, none⟩) es.length cap) h1 (by decide)
  have hxl := h1.1
  refine ⟨_, by rw [List.length_set]; exact s3.1, by rw [List.length_set, List.length_set]; exact h0, fun i x hi => ?_⟩
  by_cases hik : i = k
  · subst hik
    rw [List.getElem?_set_self hk] at hi
    obtain rfl : e = x := by simpa using hi
    refine ⟨rv, ov, ys, ?_, ?_, ?_, ?_, hx.grown hg hne hne2⟩
    · rw [List.getElem?_set_ne (by omega), List.getElem?_set_ne (by omega), List.getElem?_set_self (by omega)]
    · rw [List.getElem?_set_ne (by omega), List.getElem?_set_self (by rw [List.length_set]; omega)]
    · rw [List.getElem?_set_self (by rw [List.length_set, List.length_set]; omega)]
    · rw [List.getElem?_set_self (by omega)]
  · rw [List.getElem?_set_ne (fun e => hik e.symm)] at hi
    obtain ⟨f', r', y', k1, k2, k3, k4, k5⟩ := h2 i x hi
    refine ⟨f', r', y', ?_, ?_, ?_, ?_, k5.grown hg hne hne2⟩
    · rw [List.getElem?_set_ne (by omega), List.getElem?_set_ne (by omega), List.getElem?_set_ne (by omega)]; assumption
    · rw [List.getElem?_set_ne (by omega), List.getElem?_set_ne (by omega), List.getElem?_set_ne (by omega)]; assumption
    · rw [List.getElem?_set_ne (by omega), List.getElem?_set_ne (by omega), List.getElem?_set_ne (by omega)]; assumption
    · rw [List.getElem?_set_ne (by omega)]; assumption
theorem OwnX.cells {w : World} {base g n cap k : Nat} {es : List Ent} {yss : List (List Value)} (h : OwnX w base (.slice (some ⟨g, 0, none⟩) n cap) es yss) (hn : es.length = n) (hk : k < n) :
    (∃ u, w.cell? ⟨g, k * 3, none⟩ = some u) ∧ (∃ u, w.cell? ⟨g, k * 3 + 1, none⟩ = some u) ∧ (∃ u, w.cell? ⟨g, k * 3 + 2, none⟩ = some u) ∧ w.frozen? ⟨g, k * 3, none⟩ = false ∧ w.frozen? ⟨g, k * 3 + 1, none⟩ = false ∧ w.frozen? ⟨g, k * 3 + 2, none⟩ = false := by
  obtain ⟨cs, h1, _, _⟩ := h
  rcases h1.2 with ⟨e0, hz⟩ | ⟨g', cap', cur, e0, hb, hh, hn', hm, hcs, ht⟩
  · cases e0
  · injection e0 with e1 e2 e3
    injection e1 with e1
    injection e1 with e1
    subst e1 e3
    have hB : Blk w g 62 cur := hh
    have hget : ∀ j, j < n * 3 → ∃ u, w.cell? ⟨g, j, none⟩ = some u := fun j hj => ⟨cur[j]'(by rw [hcs]; omega), by rw [hB.cell]; exact Array.getElem?_eq_getElem (by rw [hcs]; omega)⟩
    exact ⟨hget _ (by omega), hget _ (by omega), hget _ (by omega), hB.frozen _, hB.frozen _, hB.frozen _⟩
theorem OwnX.made {w : World} {base n : Nat} {v : Value} (h : w.ownsRow base 62 3 v n (madeCells (Value.agg #[.int .i64 0, .slice none 0 0, .slice none 0 0]).cells (n * 3)).toList) :
    OwnX w base v (List.replicate n ⟨0, [], []⟩) (List.replicate n [.slice none 0 0]) := by
  refine ⟨_, by rw [List.length_replicate]; exact h, by simp, fun i nd hi => ?_⟩
  obtain ⟨hin, rfl⟩ : i < n ∧ nd = ⟨0, [], []⟩ := by
    rw [List.getElem?_replicate] at hi
    split at hi
    · exact ⟨by assumption, by injection hi with e; exact e.symm⟩
    · cases hi
  have hc : (Value.agg #[.int .i64 0, .slice none 0 0, .slice none 0 0]).cells = #[.int .i64 0, .slice none 0 0, .slice none 0 0] := rfl
  rw [hc]
  refine ⟨.slice none 0 0, .slice none 0 0, [.slice none 0 0], ?_, ?_, ?_, ?_, [], rfl, LX.nil _ _, OwnI.nil _ _⟩
  · simp [madeCells, show i * 3 < n * 3 by omega]
  · simp [madeCells, show i * 3 + 1 < n * 3 by omega, show (i * 3 + 1) % 3 = 1 by omega]
  · simp [madeCells, show i * 3 + 2 < n * 3 by omega, show (i * 3 + 2) % 3 = 2 by omega]
  · simp [hin]
/-- A slice of entries that lies below block B0: an argument. -/
def ArgE (B0 : Nat) (w : World) (v : Value) (es : List Ent) : Prop :=
  ∃ A n c, v = .slice A n c ∧ n ≤ c ∧ n = es.length ∧ n ≤ 9223372036854775807 ∧ ∀ k e, es[k]? = some e → ∃ g o f r, A = some ⟨g, o, none⟩ ∧ g < B0 ∧
    w.cell? ⟨g, o + k * 3, none⟩ = some (.int .i64 e.kind) ∧ w.cell? ⟨g, o + k * 3 + 1, none⟩ = some f ∧ w.cell? ⟨g, o + k * 3 + 2, none⟩ = some r ∧ ArgL B0 w f e.rows ∧ ArgI B0 w r e.out
theorem ArgE.kept {B0 : Nat} {w w' : World} {v : Value} {es : List Ent} {row : Option Nat} (h : ArgE B0 w v es) (hg : w.grownBy w' row) (hB : B0 ≤ w.heap.size) (hr : ∀ g, row = some g → B0 ≤ g) : ArgE B0 w' v es := by
  obtain ⟨A, n, c, h1, h2, h3, h4, h5⟩ := h
  refine ⟨A, n, c, h1, h2, h3, h4, fun k nd hx => ?_⟩
  obtain ⟨g, o, f, r, k1, k2, k3, k4, k5, k6, k7⟩ := h5 k nd hx
  have e : ∀ j, w'.cell? ⟨g, j, none⟩ = w.cell? ⟨g, j, none⟩ := fun j => gb_cell hg (by show g < _; omega) (fun e => by have := hr _ e; simp at this; omega)
  exact ⟨g, o, f, r, k1, k2, by rw [e]; exact k3, by rw [e]; exact k4, by rw [e]; exact k5, k6.kept hg hB hr, k7.kept hg hB hr⟩
theorem ArgE.new {B0 : Nat} {w w' : World} {v : Value} {es : List Ent} (h : ArgE B0 w v es) (hg : w.grownBy w' none) (hB : B0 ≤ w.heap.size) : ArgE B0 w' v es := h.kept hg hB (fun _ e => by cases e)
theorem ArgE.form {B0 : Nat} {w : World} {v : Value} {es : List Ent} (h : ArgE B0 w v es) : ∃ A n c, v = .slice A n c ∧ n ≤ c ∧ n = es.length ∧ n ≤ 9223372036854775807 := by
  obtain ⟨A, n, c, h1, h2, h3, h4, _⟩ := h
  exact ⟨A, n, c, h1, h2, h3, h4⟩
theorem ArgE.at_ {B0 : Nat} {w : World} {es : List Ent} {A : Option Addr} {n c k : Nat} (h : ArgE B0 w (.slice A n c) es) (hk : k < n) : ∃ g o e f r, A = some ⟨g, o, none⟩ ∧ g < B0 ∧ es[k]? = some e ∧
    w.cell? ⟨g, o + k * 3, none⟩ = some (.int .i64 e.kind) ∧ w.cell? ⟨g, o + k * 3 + 1, none⟩ = some f ∧ w.cell? ⟨g, o + k * 3 + 2, none⟩ = some r ∧ ArgL B0 w f e.rows ∧ ArgI B0 w r e.out := by
  obtain ⟨A', n', c', h1, h2, h3, h4, h5⟩ := h
  injection h1 with e1 e2 e3
  subst e1 e2 e3
  have hx : es[k]? = some es[k] := List.getElem?_eq_getElem (by omega)
  obtain ⟨g, o, f, r, k1, k2, k3, k4, k5, k6, k7⟩ := h5 k _ hx
  exact ⟨g, o, _, f, r, k1, k2, hx, k3, k4, k5, k6, k7⟩

theorem szEntry_any (B0 : Nat) (f r : Value) (e : Ent) (left : Int) (w : World) (hf : ArgL B0 w f e.rows) (hr : ArgI B0 w r e.out) (hB : B0 ≤ w.heap.size) (h0 : 0 ≤ left) (h1 : left ≤ 1048576) :
    Calls Try.prog 94 #[.agg #[.int .i64 e.kind, f, r], .int .i64 left] w fun x w' => SzPost left (fitsL e.rows ∧ (e.out.length : Int) ≤ left) x ∧ w.grownBy w' none := by
  go_enter Try.func94, Try.ntmps94
  go_wp2_with fail
  refine (szIntSS_any B0 f e.rows left _ (hf.new (gb_alloc (gb_refl w none) _) hB) h0 h1).mono ?_
  rintro x w1 ⟨⟨z, rfl, hz1, hz2, hz3⟩, rfl⟩
  by_cases hz : 0 ≤ z
  · have h3 := Lib.hid (hz3 hz)
    clear hz3
    go_wp2_with fail
    refine (szIntS_any B0 r e.out z _ (hr.new (gb_alloc (gb_refl w none) _) hB) hz (by omega)).mono ?_
    rintro x w1 ⟨⟨y, rfl, hy1, hy2, hy3⟩, rfl⟩
    by_cases hy : 0 ≤ y
    · have h4 := hy3 hy
      clear hy3
      go_wp2_with fail
      go_ret
      exact ⟨⟨y, rfl, by omega, by omega, fun _ => ⟨h3.out, by omega⟩⟩, gb_alloc (gb_refl w none) _⟩
    · clear hy3
      go_wp2_with fail
      go_ret
      exact ⟨⟨-1, rfl, by omega, by omega, fun h => by omega⟩, gb_alloc (gb_refl w none) _⟩
  · clear hz3
    go_wp2_with fail
    go_ret
    exact ⟨⟨-1, rfl, by omega, by omega, fun h => by omega⟩, gb_alloc (gb_refl w none) _⟩

/-- All of a list of entries is short. -/
def fitsE (es : List Ent) : Prop := es.length ≤ 1048576 ∧ ∀ e ∈ es, fitsL e.rows ∧ e.out.length ≤ 1048576
theorem szEntryS_any (B0 : Nat) (v : Value) (es : List Ent) (left : Int) (w : World) (h : ArgE B0 w v es) (hB : B0 ≤ w.heap.size) (h0 : 0 ≤ left) (h1 : left ≤ 1048576) :
    Calls Try.prog 52 #[v, .int .i64 left] w fun e w' => SzPost left (fitsE es) e ∧ w.grownBy w' none := by
  obtain ⟨A, n, c, rfl, h2, h3, h4⟩ := h.form
  have Hn := Lib.hid h3
  clear h3
  by_cases hn : left < n
  · go_enter Try.func52, Try.ntmps52
    go_wp2_with fail
    go_ret
    exact ⟨⟨-1, rfl, by omega, by omega, fun h => by omega⟩, gb_refl _ _⟩
  · go_enter Try.func52, Try.ntmps52
    go_wp2_with fail
    go_loopw [1, 5] (fun s i wr => ∃ (k : Nat) (z : Int), k ≤ n ∧ i = .int .i64 k ∧ s = .int .i64 z ∧ 0 ≤ z ∧ z ≤ left ∧ Hid (∀ j e, j < k → es[j]? = some e → fitsL e.rows ∧ e.out.length ≤ 1048576) ∧ w.grownBy wr none) (fun _ i _ => n - (intOf i).toNat)
    case atStart => exact ⟨0, left - n, Nat.zero_le _, rfl, rfl, by omega, by omega, fun j nd hj => by omega, gb_refl _ _⟩
    case round =>
      obtain ⟨k, z, hk, rfl, rfl, hz0, hz1, Hall, hg⟩ := hrel
      by_cases hlt : k < n
      · obtain ⟨g, o, e, f, r, rfl, hgB, hx, c0, c1, c2, hf, hr⟩ := (h.new hg hB).at_ hlt
        have Hx := Lib.hid hx
        clear hx
        have hsz := hg.size
        go_wp2_with fail
        refine (szEntry_any B0 f r e z _ hf hr (by omega) hz0 (by omega)).mono ?_
        rintro x w1 ⟨⟨y, rfl, hy1, hy2, hy3⟩, hg1⟩
        by_cases hy : 0 ≤ y
        · have h5 := hy3 hy
          have Hall2 : Hid (∀ j e, j < k + 1 → es[j]? = some e → fitsL e.rows ∧ e.out.length ≤ 1048576) := by
            intro j nd' hj hx'
            by_cases hjk : j = k
            · subst hjk
              have e := Hx.out
              rw [hx'] at e
              cases e
              exact ⟨h5.1, by omega⟩
            · exact Hall.out j nd' (by omega) hx'
          clear hy3 h5
          go_wp2_with fail
          go_roundw
          case rel => exact ⟨k + 1, y, by omega, by go_num, rfl, hy, by omega, Hall2, gb_trans hg hg1⟩
          case measure => simp [intOf]; omega
        · clear hy3
          go_wp2_with fail
          go_ret
          exact ⟨⟨-1, rfl, by omega, by omega, fun h => by omega⟩, gb_trans hg hg1⟩
      · obtain rfl : k = n := by omega
        have hfit : Hid (fitsE es) := by
          refine ⟨by rw [← Hn.out]; omega, fun nd hm => ?_⟩
          obtain ⟨j, hj⟩ := List.mem_iff_getElem?.1 hm
          exact Hall.out j nd (by rw [Hn.out]; exact (List.getElem?_eq_some_iff.1 hj).1) hj
        go_wp2_with fail
        go_ret
        exact ⟨⟨z, rfl, by omega, by omega, fun _ => hfit.out⟩, hg⟩
/-- Under way: the argument's block, the result's, the copy's. -/
structure TMidE (w wx : World) (kind : Int) (f r : Value) (k' : Int) (f' r' : Value) : Prop where
  s : Blk wx w.heap.size 106 #[.int .i64 kind, f, r]
  res : Blk wx (w.heap.size + 1) 62 #[.int .i64 0, .slice none 0 0, .slice none 0 0]
  o : Blk wx (w.heap.size + 1 + 1) 62 #[.int .i64 k', f', r']
  g : w.grownBy wx none
theorem TMidE.new (w : World) (kind : Int) (f r : Value) : TMidE w (((w.alloc (.cells #[.int .i64 kind, f, r] 106)).alloc (.cells #[.int .i64 0, .slice none 0 0, .slice none 0 0] 62)).alloc (.cells #[.int .i64 kind, .slice none 0 0, .slice none 0 0] 62)) kind f r kind (.slice none 0 0) (.slice none 0 0) := by
  refine ⟨((Blk.new w _ _).alloc _).alloc _, ?_, ?_, gb_alloc (gb_alloc (gb_alloc (gb_refl w none) _) _) _⟩
  · have := (Blk.new (w.alloc (.cells #[.int .i64 kind, f, r] 106)) 62 #[.int .i64 0, .slice none 0 0, .slice none 0 0]).alloc (.cells #[.int .i64 kind, .slice none 0 0, .slice none 0 0] 62)
    rw [World.size_alloc] at this
    exact this
  · have := Blk.new ((w.alloc (.cells #[.int .i64 kind, f, r] 106)).alloc (.cells #[.int .i64 0, .slice none 0 0, .slice none 0 0] 62)) 62 #[.int .i64 kind, .slice none 0 0, .slice none 0 0]
    rw [World.size_alloc, World.size_alloc] at this
    exact this
theorem TMidE.call {w wx wy : World} {kind k' : Int} {f r f' r' : Value} (M : TMidE w wx kind f r k' f' r') (hg : wx.grownBy wy none) : TMidE w wy kind f r k' f' r' :=
  ⟨M.s.grown hg (by simp), M.res.grown hg (by simp), M.o.grown hg (by simp), gb_trans M.g hg⟩
theorem TMidE.store {w wx : World} {kind k' k2 : Int} {f r f' r' f2 r2 : Value} (M : TMidE w wx kind f r k' f' r') (j : Nat) (u : Value) (hc : #[.int .i64 k', f', r'].setIfInBounds j u = #[.int .i64 k2, f2, r2]) :
    TMidE w (wx.setCell ⟨w.heap.size + 1 + 1, j, none⟩ u) kind f r k2 f2 r2 :=
  ⟨M.s.far (by show w.heap.size ≠ w.heap.size + 1 + 1; omega) u, M.res.far (by show w.heap.size + 1 ≠ w.heap.size + 1 + 1; omega) u, hc ▸ M.o.set_ j u, gb_set (p := ⟨w.heap.size + 1 + 1, j, none⟩) M.g (.inl (by show w.heap.size ≤ w.heap.size + 1 + 1; omega)) u⟩
def EntCopy (w : World) (e : Ent) (x : Ending) (w' : World) : Prop := ∃ f r ys, x = .returned (.agg #[.int .i64 e.kind, f, r]) ∧ EX w' w.heap.size f r e ys ∧ w.grownBy w' none
theorem LX.keep {w w' : World} {b g : Nat} {E : TypeId} {cs : Array Value} {v : Value} {ll : List (List Int)} {xs : List Value} (h : LX w b v ll xs) (hg : w.grownBy w' (some g)) (hb : Blk w g E cs) (hE : 3 ≠ E) (hE2 : 27 ≠ E) : LX w' b v ll xs := h.grown hg (NotE.blk hb hE) (NotE.blk hb hE2)
set_option maxRecDepth 20000 in
theorem toEntry_any (B0 : Nat) (f r : Value) (e : Ent) (w : World) (hf : ArgL B0 w f e.rows) (hr : ArgI B0 w r e.out) (hB : B0 ≤ w.heap.size) (hl1 : fitsL e.rows) (hl2 : e.out.length ≤ 1048576) :
    Calls Try.prog 95 #[.agg #[.int .i64 e.kind, f, r]] w (EntCopy w e) := by
  obtain ⟨A1, n1, c1, rfl, -, -, -⟩ := hf.form
  obtain ⟨A2, n2, c2, rfl, -, -, -⟩ := hr.form
  have M1 := TMidE.new w e.kind (.slice A1 n1 c1) (.slice A2 n2 c2)
  have Hl1 := Lib.hid hl1
  clear hl1
  go_enter Try.func95, Try.ntmps95
  go_wp2_with fail
  generalize (((w.alloc (.cells #[.int .i64 e.kind, .slice A1 n1 c1, .slice A2 n2 c2] 106)).alloc (.cells #[.int .i64 0, .slice none 0 0, .slice none 0 0] 62)).alloc (.cells #[.int .i64 e.kind, .slice none 0 0, .slice none 0 0] 62)) = X at *
  have hs1 := M1.g.size
  refine (toIntSS_any B0 _ e.rows X (hf.new M1.g hB) (by omega) Hl1.out).mono ?_
  rintro x w1 ⟨v1, rfl, ⟨xs, ho1, hap1⟩, hg1⟩
  have M2 := M1.call hg1
  obtain ⟨B1, m1, e1, rfl⟩ := ho1.rl.val
  have o1 := ho1.low (b := w.heap.size) hs1
  have k1 := M2.o.cell 1
  have f1 := M2.o.frozen 1
  have M3 := M2.store (k2 := e.kind) (f2 := .slice B1 m1 e1) (r2 := .slice none 0 0) 1 (.slice B1 m1 e1) rfl
  have o3 := o1.keep (gb_set (p := ⟨w.heap.size + 1 + 1, 1, none⟩) (gb_refl w1 (some (w.heap.size + 1 + 1))) (.inr rfl) (.slice B1 m1 e1)) M2.o (by decide) (by decide)
  have d2 := M3.s.cell 2
  have hs3 := M3.g.size
  clear ho1 o1 M1 hap1
  go_wp2_with fail
  generalize w1.setCell ⟨w.heap.size + 1 + 1, 1, none⟩ (.slice B1 m1 e1) = Y at *
  refine (toIntS_any B0 _ e.out Y (hr.new M3.g hB) (by omega) hl2).mono ?_
  rintro x w4 ⟨v4, rfl, ho4, hg4⟩
  have M4 := M3.call hg4
  obtain ⟨B4, m4, e4, rfl⟩ := ho4.ri.val
  have o4 := ho4.lower (b := w.heap.size) hs3
  have o5 := o3.new hg4
  have M5 := M4.store (k2 := e.kind) (f2 := .slice B1 m1 e1) (r2 := .slice B4 m4 e4) 2 (.slice B4 m4 e4) rfl
  have hgs := gb_set (p := ⟨w.heap.size + 1 + 1, 2, none⟩) (gb_refl w4 (some (w.heap.size + 1 + 1))) (.inr rfl) (.slice B4 m4 e4)
  have o6 := o4.keep hgs M4.o (by decide)
  have o7 := o5.keep hgs M4.o (by decide) (by decide)
  have k2 := M4.o.cell 2
  have f2 := M4.o.frozen 2
  have k50 := M5.o.cell 0
  have k51 := M5.o.cell 1
  have k52 := M5.o.cell 2
  have r50 := M5.res.cell 0
  have r51 := M5.res.cell 1
  have r52 := M5.res.cell 2
  have q50 := M5.res.frozen 0
  have q51 := M5.res.frozen 1
  have q52 := M5.res.frozen 2
  go_wp2_with fail
  generalize w4.setCell ⟨w.heap.size + 1 + 1, 2, none⟩ (.slice B4 m4 e4) = Z at *
  refine bodyPost_ret (v := .agg #[.int .i64 e.kind, .slice B1 m1 e1, .slice B4 m4 e4]) (by simp [results, Try.results95, go_sem, r50, r51, r52]) rfl ?_
  have hst := gb_set3 Z (w.heap.size + 1) (.int .i64 e.kind) (.slice B1 m1 e1) (.slice B4 m4 e4)
  exact ⟨_, _, _, rfl, ⟨xs, rfl, o7.keep hst M5.res (by decide) (by decide), o6.keep hst M5.res (by decide)⟩, gb_new M5.g hst (fun g e => by cases e; exact .inl (by omega))⟩
def EntsCopy (w : World) (es : List Ent) (x : Ending) (w' : World) : Prop := ∃ v' yss, x = .returned v' ∧ OwnX w' w.heap.size v' es yss ∧ w.grownBy w' none
set_option maxRecDepth 20000 in
theorem toEntryS_any (B0 : Nat) (v : Value) (es : List Ent) (w : World) (h : ArgE B0 w v es) (hB : B0 ≤ w.heap.size) (hl : fitsE es) :
    Calls Try.prog 53 #[v] w (EntsCopy w es) := by
  obtain ⟨A, n, c, rfl, h2, h3, h4⟩ := h.form
  have hn : n ≤ 1048576 := by have := hl.1; omega
  have Hl := Lib.hid hl
  have Hn := Lib.hid h3
  clear h3 hl
  obtain ⟨i0, hi, hz0, hz1, hz2⟩ := info_parts info62
  go_enter Try.func53, Try.ntmps53
  go_wp2_with (at_make; go_must (refine wpList_make_full _ rfl _ _ 41 rfl w.heap.size 62 i0 _ 3 Try.underlying41 hi hz0 hz1 _ _ _ _ n rfl rfl rfl rfl (by rw [hz2]; omega) (by unfold maxLen; omega) (Nat.le_refl _) ?_))
  intro w0 hown0 hg0
  have H0 : Hid (∃ yss, OwnX w0 w.heap.size (.slice (some ⟨w.heap.size, 0, none⟩) n n) (es.take 0 ++ List.replicate (n - 0) ⟨0, [], []⟩) yss) := ⟨_, OwnX.made hown0⟩
  clear hown0
  go_wp2_with fail
  go_loopw [4] (fun i wr => ∃ k : Nat, k ≤ n ∧ i = .int .i64 k ∧ Hid (∃ yss, OwnX wr w.heap.size (.slice (some ⟨w.heap.size, 0, none⟩) n n) (es.take k ++ List.replicate (n - k) ⟨0, [], []⟩) yss) ∧ w.grownBy wr none) (fun i _ => n - (intOf i).toNat)
  case atStart => exact ⟨0, Nat.zero_le _, rfl, H0, hg0⟩
  case round =>
    clear H0 hg0
    obtain ⟨k, hk, rfl, Ho, hg⟩ := hrel
    by_cases hlt : k < n
    · have hw := h.new hg hB
      obtain ⟨g, o, e, f, r, rfl, hgB, hx, c0, c1, c2, hf, hr⟩ := hw.at_ hlt
      have hsz := hg.size
      have hfr := Hl.out.2 e (List.mem_of_getElem? hx)
      have Hfr := Lib.hid hfr
      have Hx := Lib.hid hx
      clear hx hfr
      go_wp2_with fail
      refine (toEntry_any B0 f r e wr hf hr (by omega) Hfr.out.1 Hfr.out.2).mono ?_
      rintro x w4 ⟨f', r', ys, rfl, hx', hg4⟩
      obtain ⟨yss, hO⟩ := Ho.out
      have hD := hO.new hg4
      have hlen : (es.take k ++ List.replicate (n - k) (⟨0, [], []⟩ : Ent)).length = n := by rw [List.length_append, List.length_take, List.length_replicate, ← Hn.out]; omega
      have hD2 := hD.set_ hlen hlt (hx'.low (b := w.heap.size) hsz)
      rw [take_set _ Hx.out Hn.out] at hD2
      obtain ⟨⟨u0, d0⟩, ⟨u1, d1⟩, ⟨u2, d2⟩, q0, q1, q2⟩ := hD.cells hlen hlt
      have hg5 : w.grownBy (((w4.setCell ⟨w.heap.size, k * 3, none⟩ (.int .i64 e.kind)).setCell ⟨w.heap.size, k * 3 + 1, none⟩ f').setCell ⟨w.heap.size, k * 3 + 2, none⟩ r') none :=
        gb_set (p := ⟨w.heap.size, k * 3 + 2, none⟩) (gb_set (p := ⟨w.heap.size, k * 3 + 1, none⟩) (gb_set (p := ⟨w.heap.size, k * 3, none⟩) (gb_trans hg hg4) (.inl (Nat.le_refl _)) _) (.inl (Nat.le_refl _)) _) (.inl (Nat.le_refl _)) _
      obtain ⟨B1, m1, e1, rfl⟩ := hx'.rl.val
      obtain ⟨B4, m4, e4, rfl⟩ := hx'.ri.val
      have HD2 : Hid (∃ yss, OwnX _ w.heap.size (.slice (some ⟨w.heap.size, 0, none⟩) n n) (es.take (k + 1) ++ List.replicate (n - (k + 1)) ⟨0, [], []⟩) yss) := ⟨_, hD2⟩
      clear hlen Ho hg hD hD2 hx' hf hr hw hO
      go_wp2_with fail
      go_roundw
      case rel => exact ⟨k + 1, by omega, by go_num, HD2, hg5⟩
      case measure => simp [intOf]; omega
    · obtain rfl : k = n := by omega
      obtain ⟨yss, hO⟩ := Ho.out
      have Ho2 : OwnX wr w.heap.size (.slice (some ⟨w.heap.size, 0, none⟩) k k) es yss := by
        rw [Nat.sub_self, List.take_of_length_le (by rw [← Hn.out]; omega)] at hO
        simpa using hO
      clear Ho hO
      go_wp2_with fail
      go_ret
      exact ⟨_, _, rfl, Ho2, hg⟩
set_option maxRecDepth 20000 in
theorem eqEntry_any (f r f' r' : Value) (e : Ent) (w : World) (hf : RL w f e.rows) (hr : RI w r e.out) (hf' : RL w f' e.rows) (hr' : RI w r' e.out) :
    Calls Try.prog 96 #[.agg #[.int .i64 e.kind, f, r], .agg #[.int .i64 e.kind, f', r']] w fun x w' => x = .returned (.bool true) ∧ w.grownBy w' none := by
  have B0 : Blk ((w.alloc (.cells #[.int .i64 e.kind, f, r] 62)).alloc (.cells #[.int .i64 e.kind, f', r'] 62)) w.heap.size 62 #[.int .i64 e.kind, f, r] := (Blk.new w _ _).alloc _
  have B1 : Blk ((w.alloc (.cells #[.int .i64 e.kind, f, r] 62)).alloc (.cells #[.int .i64 e.kind, f', r'] 62)) (w.heap.size + 1) 62 #[.int .i64 e.kind, f', r'] := by
    have := Blk.new (w.alloc (.cells #[.int .i64 e.kind, f, r] 62)) 62 #[.int .i64 e.kind, f', r']
    rw [World.size_alloc] at this
    exact this
  have hg0 : w.grownBy ((w.alloc (.cells #[.int .i64 e.kind, f, r] 62)).alloc (.cells #[.int .i64 e.kind, f', r'] 62)) none := gb_alloc (gb_alloc (gb_refl w none) _) _
  go_enter Try.func96, Try.ntmps96
  go_wp2_with fail
  generalize ((w.alloc (.cells #[.int .i64 e.kind, f, r] 62)).alloc (.cells #[.int .i64 e.kind, f', r'] 62)) = X at *
  refine (eqIntSS_any f f' e.rows X (hf.new hg0) (hf'.new hg0)).mono ?_
  rintro x w1 ⟨rfl, hg1⟩
  have k1 := (B0.grown hg1 (by simp)).cell 2
  have k2 := (B1.grown hg1 (by simp)).cell 2
  go_wp2_with fail
  refine (eqIntS_any r r' e.out w1 ((hr.new hg0).new hg1) ((hr'.new hg0).new hg1)).mono ?_
  rintro x w2 ⟨rfl, hg2⟩
  go_wp2_with fail
  go_ret
  exact ⟨rfl, gb_trans (gb_trans hg0 hg1) hg2⟩
set_option maxRecDepth 20000 in
theorem eqEntryS_any (v v' : Value) (es : List Ent) (w : World) (h : RE w v es) (h' : RE w v' es) : Calls Try.prog 54 #[v, v'] w fun x w' => x = .returned (.bool true) ∧ w.grownBy w' none := by
  obtain ⟨A, n, c, rfl, h2, h3, h4⟩ := h.form'
  obtain ⟨A', n', c', rfl, h2', h3', h4'⟩ := h'.form'
  obtain rfl : n = n' := by omega
  clear h3 h3'
  go_enter Try.func54, Try.ntmps54
  go_wp2_with fail
  go_loopw [5] (fun i wr => ∃ k : Nat, k ≤ n ∧ i = .int .i64 k ∧ w.grownBy wr none) (fun i _ => n - (intOf i).toNat)
  case atStart => exact ⟨0, Nat.zero_le _, rfl, gb_refl _ _⟩
  case round =>
    obtain ⟨k, hk, rfl, hg⟩ := hrel
    have hw := h.new hg
    have hw' := h'.new hg
    by_cases hlt : k < n
    · obtain ⟨g, o, e, B1, m1, e1, B2, m2, e2, rfl, hx, c0, c1, c2, hf, hr⟩ := hw.at_ hlt
      obtain ⟨g', o', e', B3, m3, e3, B4, m4, e4, rfl, hx', d0, d1, d2, hf', hr'⟩ := hw'.at_ hlt
      obtain rfl : e = e' := by rw [hx] at hx'; injection hx'
      clear hx hx'
      go_wp2_with fail
      go_region_held3 (fun w' => w'.cell? ⟨g, o + k * 3, none⟩ = some (.int .i64 e.kind) ∧ w'.cell? ⟨g, o + k * 3 + 1, none⟩ = some (.slice B1 m1 e1) ∧ w'.cell? ⟨g, o + k * 3 + 2, none⟩ = some (.slice B2 m2 e2) ∧ w'.cell? ⟨g', o' + k * 3, none⟩ = some (.int .i64 e.kind) ∧ w'.cell? ⟨g', o' + k * 3 + 1, none⟩ = some (.slice B3 m3 e3) ∧ w'.cell? ⟨g', o' + k * 3 + 2, none⟩ = some (.slice B4 m4 e4)) (go_keep)
        (first | (go_at_call 96; refine (eqEntry_any _ _ _ _ e _ (by exact hf) (by exact hr) (by exact hf') (by exact hr')).mono ?_; rintro x w' ⟨rfl, hg'⟩; have k0 := hg'.cell (by exact c0) (by simp); have k1 := hg'.cell (by exact c1) (by simp); have k2 := hg'.cell (by exact c2) (by simp); have l0 := hg'.cell (by exact d0) (by simp); have l1 := hg'.cell (by exact d1) (by simp); have l2 := hg'.cell (by exact d2) (by simp)))
      go_wp2_with fail
      go_roundw
      case rel => exact ⟨k + 1, by omega, by go_num, gb_trans (gb_drew hg) (by assumption)⟩
      case measure => simp [intOf]; omega
    · go_wp2_with fail
      go_ret
      exact ⟨rfl, hg⟩
end Go.Proofs.Ytjlnhijabdkagaa
