/- Walks: the laws' copies of plans: sizes, copies, comparisons. -/
import Derived.Test.YthampfkicnakgaaGreatDoorE2Args
namespace Go.Proofs.YthampfkicnakgaaGreatDoor
open Go.RowKit

/-- A slice of nodes that lies below block B0: an argument. -/
def ArgN (B0 : Nat) (w : World) (v : Value) (plan : List Node) : Prop :=
  ∃ A n c, v = .slice A n c ∧ n ≤ c ∧ n = plan.length ∧ n ≤ 9223372036854775807 ∧ ∀ k nd, plan[k]? = some nd → ∃ g o f r, A = some ⟨g, o, none⟩ ∧ g < B0 ∧
    w.cell? ⟨g, o + k * 3, none⟩ = some (.int .i64 nd.kind) ∧ w.cell? ⟨g, o + k * 3 + 1, none⟩ = some f ∧ w.cell? ⟨g, o + k * 3 + 2, none⟩ = some r ∧ ArgI B0 w f nd.frm ∧ ArgI B0 w r nd.row
theorem ArgN.kept {B0 : Nat} {w w' : World} {v : Value} {plan : List Node} {row : Option Nat} (h : ArgN B0 w v plan) (hg : w.grownBy w' row) (hB : B0 ≤ w.heap.size) (hr : ∀ g, row = some g → B0 ≤ g) : ArgN B0 w' v plan := by
  obtain ⟨A, n, c, h1, h2, h3, h4, h5⟩ := h
  refine ⟨A, n, c, h1, h2, h3, h4, fun k nd hx => ?_⟩
  obtain ⟨g, o, f, r, k1, k2, k3, k4, k5, k6, k7⟩ := h5 k nd hx
  have e : ∀ j, w'.cell? ⟨g, j, none⟩ = w.cell? ⟨g, j, none⟩ := fun j => gb_cell hg (by show g < _; omega) (fun e => by have := hr _ e; simp at this; omega)
  exact ⟨g, o, f, r, k1, k2, by rw [e]; exact k3, by rw [e]; exact k4, by rw [e]; exact k5, k6.kept hg hB hr, k7.kept hg hB hr⟩
theorem ArgN.new {B0 : Nat} {w w' : World} {v : Value} {plan : List Node} (h : ArgN B0 w v plan) (hg : w.grownBy w' none) (hB : B0 ≤ w.heap.size) : ArgN B0 w' v plan := h.kept hg hB (fun _ e => by cases e)
theorem ArgN.form {B0 : Nat} {w : World} {v : Value} {plan : List Node} (h : ArgN B0 w v plan) : ∃ A n c, v = .slice A n c ∧ n ≤ c ∧ n = plan.length ∧ n ≤ 9223372036854775807 := by
  obtain ⟨A, n, c, h1, h2, h3, h4, _⟩ := h
  exact ⟨A, n, c, h1, h2, h3, h4⟩
theorem ArgN.at_ {B0 : Nat} {w : World} {plan : List Node} {A : Option Addr} {n c k : Nat} (h : ArgN B0 w (.slice A n c) plan) (hk : k < n) : ∃ g o nd f r, A = some ⟨g, o, none⟩ ∧ g < B0 ∧ plan[k]? = some nd ∧
    w.cell? ⟨g, o + k * 3, none⟩ = some (.int .i64 nd.kind) ∧ w.cell? ⟨g, o + k * 3 + 1, none⟩ = some f ∧ w.cell? ⟨g, o + k * 3 + 2, none⟩ = some r ∧ ArgI B0 w f nd.frm ∧ ArgI B0 w r nd.row := by
  obtain ⟨A', n', c', h1, h2, h3, h4, h5⟩ := h
  injection h1 with e1 e2 e3
  subst e1 e2 e3
  have hx : plan[k]? = some plan[k] := List.getElem?_eq_getElem (by omega)
  obtain ⟨g, o, f, r, k1, k2, k3, k4, k5, k6, k7⟩ := h5 k _ hx
  exact ⟨g, o, _, f, r, k1, k2, hx, k3, k4, k5, k6, k7⟩

/-- A row of nodes of the call's own, with its rows of integers. -/
def DC (w : World) (base : Nat) (xs : List Value) (i : Nat) (nd : Node) : Prop :=
  ∃ f r, xs[i * 3]? = some (.int .i64 nd.kind) ∧ xs[i * 3 + 1]? = some f ∧ xs[i * 3 + 2]? = some r ∧ OwnI w base f nd.frm ∧ OwnI w base r nd.row
def DN (w : World) (base : Nat) (v : Value) (plan : List Node) : Prop := ∃ xs, w.ownsRow base 66 3 v plan.length xs ∧ ∀ i nd, plan[i]? = some nd → DC w base xs i nd
theorem DN.own {w : World} {base : Nat} {v : Value} {plan : List Node} (h : DN w base v plan) : OwnN w base v plan := by
  obtain ⟨xs, h1, h2⟩ := h
  refine ⟨xs, h1, fun i nd hi => ?_⟩
  obtain ⟨f, r, k1, k2, k3, k4, k5⟩ := h2 i nd hi
  exact ⟨f, r, k1, k2, k3, k4.ri, k5.ri⟩
theorem DN.rn {w : World} {base : Nat} {v : Value} {plan : List Node} (h : DN w base v plan) : RN w v plan := h.own.rn
theorem DN.new {w w' : World} {base : Nat} {v : Value} {plan : List Node} (h : DN w base v plan) (hg : w.grownBy w' none) : DN w' base v plan := by
  obtain ⟨xs, h1, h2⟩ := h
  refine ⟨xs, own_grown h1 hg (NotE.none _ _), fun i nd hi => ?_⟩
  obtain ⟨f, r, k1, k2, k3, k4, k5⟩ := h2 i nd hi
  exact ⟨f, r, k1, k2, k3, k4.new hg, k5.new hg⟩
theorem DN.set_ {w : World} {base g n cap k : Nat} {plan : List Node} {nd : Node} {f r : Value} (h : DN w base (.slice (some ⟨g, 0, none⟩) n cap) plan) (hn : plan.length = n) (hk : k < n) (hf : OwnI w base f nd.frm) (hr : OwnI w base r nd.row) :
    DN (((w.setCell ⟨g, k * 3, none⟩ (.int .i64 nd.kind)).setCell ⟨g, k * 3 + 1, none⟩ f).setCell ⟨g, k * 3 + 2, none⟩ r) base (.slice (some ⟨g, 0, none⟩) n cap) (plan.set k nd) := by
  subst hn
  obtain ⟨xs, h1, h2⟩ := h
  have s1 := World.ownsRow.stored h1 (k * 3) (.int .i64 nd.kind)
  have s2 := World.ownsRow.stored s1.1 (k * 3 + 1) f
  have s3 := World.ownsRow.stored s2.1 (k * 3 + 2) r
  have hg : w.grownBy (((w.setCell ⟨g, k * 3, none⟩ (.int .i64 nd.kind)).setCell ⟨g, k * 3 + 1, none⟩ f).setCell ⟨g, k * 3 + 2, none⟩ r) (some g) := gb_trans (gb_trans s1.2 s2.2) s3.2
  have hne : NotE w 3 (some g) := NotE.own (v := .slice (some ⟨g, 0, none⟩) plan.length cap) h1 (by decide)
  have hxl := h1.1
  refine ⟨_, by rw [List.length_set]; exact s3.1, fun i x hi => ?_⟩
  by_cases hik : i = k
  · subst hik
    rw [List.getElem?_set_self hk] at hi
    obtain rfl : nd = x := by simpa using hi
    refine ⟨f, r, ?_, ?_, ?_, hf.grown hg hne, hr.grown hg hne⟩
    · rw [List.getElem?_set_ne (by omega), List.getElem?_set_ne (by omega), List.getElem?_set_self (by omega)]
    · rw [List.getElem?_set_ne (by omega), List.getElem?_set_self (by rw [List.length_set]; omega)]
    · rw [List.getElem?_set_self (by rw [List.length_set, List.length_set]; omega)]
  · rw [List.getElem?_set_ne (fun e => hik e.symm)] at hi
    obtain ⟨f', r', k1, k2, k3, k4, k5⟩ := h2 i x hi
    refine ⟨f', r', ?_, ?_, ?_, k4.grown hg hne, k5.grown hg hne⟩
    all_goals rw [List.getElem?_set_ne (by omega), List.getElem?_set_ne (by omega), List.getElem?_set_ne (by omega)]; assumption
theorem DN.made {w : World} {base n : Nat} {v : Value} (h : w.ownsRow base 66 3 v n (madeCells (Value.agg #[.int .i64 0, .slice none 0 0, .slice none 0 0]).cells (n * 3)).toList) : DN w base v (List.replicate n ⟨0, [], []⟩) := by
  refine ⟨_, by rw [List.length_replicate]; exact h, fun i nd hi => ?_⟩
  obtain ⟨hin, rfl⟩ : i < n ∧ nd = ⟨0, [], []⟩ := by
    rw [List.getElem?_replicate] at hi
    split at hi
    · exact ⟨by assumption, by injection hi with e; exact e.symm⟩
    · cases hi
  have hc : (Value.agg #[.int .i64 0, .slice none 0 0, .slice none 0 0]).cells = #[.int .i64 0, .slice none 0 0, .slice none 0 0] := rfl
  rw [hc]
  refine ⟨.slice none 0 0, .slice none 0 0, ?_, ?_, ?_, OwnI.nil _ _, OwnI.nil _ _⟩
  · simp [madeCells, show i * 3 < n * 3 by omega]
  · simp [madeCells, show i * 3 + 1 < n * 3 by omega, show (i * 3 + 1) % 3 = 1 by omega]
  · simp [madeCells, show i * 3 + 2 < n * 3 by omega, show (i * 3 + 2) % 3 = 2 by omega]

theorem szNode_any (B0 : Nat) (f r : Value) (nd : Node) (left : Int) (w : World) (hf : ArgI B0 w f nd.frm) (hr : ArgI B0 w r nd.row) (hB : B0 ≤ w.heap.size) (h0 : 0 ≤ left) (h1 : left ≤ 1048576) :
    Calls Tryz.prog 45 #[.agg #[.int .i64 nd.kind, f, r], .int .i64 left] w fun e w' => SzPost left ((nd.frm.length : Int) ≤ left ∧ (nd.row.length : Int) ≤ left) e ∧ w.grownBy w' none := by
  go_enter Tryz.func45, Tryz.ntmps45
  go_wp2_with fail
  refine (szIntS_any B0 f nd.frm left _ (hf.new (gb_alloc (gb_refl w none) _) hB) h0 h1).mono ?_
  rintro e w1 ⟨⟨z, rfl, hz1, hz2, hz3⟩, rfl⟩
  by_cases hz : 0 ≤ z
  · have h3 := hz3 hz
    clear hz3
    go_wp2_with fail
    refine (szIntS_any B0 r nd.row z _ (hr.new (gb_alloc (gb_refl w none) _) hB) hz (by omega)).mono ?_
    rintro e w1 ⟨⟨y, rfl, hy1, hy2, hy3⟩, rfl⟩
    by_cases hy : 0 ≤ y
    · have h4 := hy3 hy
      clear hy3
      go_wp2_with fail
      go_ret
      exact ⟨⟨y, rfl, by omega, by omega, fun _ => ⟨h3, by omega⟩⟩, gb_alloc (gb_refl w none) _⟩
    · clear hy3
      go_wp2_with fail
      go_ret
      exact ⟨⟨-1, rfl, by omega, by omega, fun h => by omega⟩, gb_alloc (gb_refl w none) _⟩
  · clear hz3
    go_wp2_with fail
    go_ret
    exact ⟨⟨-1, rfl, by omega, by omega, fun h => by omega⟩, gb_alloc (gb_refl w none) _⟩

/-- All of a plan is short. -/
def fitsN (plan : List Node) : Prop := plan.length ≤ 1048576 ∧ ∀ nd ∈ plan, nd.frm.length ≤ 1048576 ∧ nd.row.length ≤ 1048576
theorem szNodeS_any (B0 : Nat) (v : Value) (plan : List Node) (left : Int) (w : World) (h : ArgN B0 w v plan) (hB : B0 ≤ w.heap.size) (h0 : 0 ≤ left) (h1 : left ≤ 1048576) :
    Calls Tryz.prog 17 #[v, .int .i64 left] w fun e w' => SzPost left (fitsN plan) e ∧ w.grownBy w' none := by
  obtain ⟨A, n, c, rfl, h2, h3, h4⟩ := h.form
  have Hn := Lib.hid h3
  clear h3
  by_cases hn : left < n
  · go_enter Tryz.func17, Tryz.ntmps17
    go_wp2_with fail
    go_ret
    exact ⟨⟨-1, rfl, by omega, by omega, fun h => by omega⟩, gb_refl _ _⟩
  · go_enter Tryz.func17, Tryz.ntmps17
    go_wp2_with fail
    go_loopw [1, 5] (fun s i wr => ∃ (k : Nat) (z : Int), k ≤ n ∧ i = .int .i64 k ∧ s = .int .i64 z ∧ 0 ≤ z ∧ z ≤ left ∧ Hid (∀ j nd, j < k → plan[j]? = some nd → nd.frm.length ≤ 1048576 ∧ nd.row.length ≤ 1048576) ∧ w.grownBy wr none) (fun _ i _ => n - (intOf i).toNat)
    case atStart => exact ⟨0, left - n, Nat.zero_le _, rfl, rfl, by omega, by omega, fun j nd hj => by omega, gb_refl _ _⟩
    case round =>
      obtain ⟨k, z, hk, rfl, rfl, hz0, hz1, Hall, hg⟩ := hrel
      by_cases hlt : k < n
      · obtain ⟨g, o, nd, f, r, rfl, hgB, hx, c0, c1, c2, hf, hr⟩ := (h.new hg hB).at_ hlt
        have Hx := Lib.hid hx
        clear hx
        have hsz := hg.size
        go_wp2_with fail
        refine (szNode_any B0 f r nd z _ hf hr (by omega) hz0 (by omega)).mono ?_
        rintro e w1 ⟨⟨y, rfl, hy1, hy2, hy3⟩, hg1⟩
        by_cases hy : 0 ≤ y
        · have h5 := hy3 hy
          have Hall2 : Hid (∀ j nd, j < k + 1 → plan[j]? = some nd → nd.frm.length ≤ 1048576 ∧ nd.row.length ≤ 1048576) := by
            intro j nd' hj hx'
            by_cases hjk : j = k
            · subst hjk
              have e := Hx.out
              rw [hx'] at e
              cases e
              omega
            · exact Hall.out j nd' (by omega) hx'
          clear hy3 h5
          go_wp2_with fail
          go_roundw
          case rel => exact ⟨k + 1, y, by omega, by go_num, rfl, hy, by omega, Hall2, gb_trans hg hg1⟩
          case measure => simp [intOf]; omega
        · clear hy3
          go_wp2_with fail
          go_ret
          exact ⟨⟨-1, rfl, by omega, by omega, fun h => by omega⟩, gb_trans hg hg1⟩
      · obtain rfl : k = n := by omega
        have hfit : Hid (fitsN plan) := by
          refine ⟨by rw [← Hn.out]; omega, fun nd hm => ?_⟩
          obtain ⟨j, hj⟩ := List.mem_iff_getElem?.1 hm
          exact Hall.out j nd (by rw [Hn.out]; exact (List.getElem?_eq_some_iff.1 hj).1) hj
        go_wp2_with fail
        go_ret
        exact ⟨⟨z, rfl, by omega, by omega, fun _ => hfit.out⟩, hg⟩
end Go.Proofs.YthampfkicnakgaaGreatDoor
