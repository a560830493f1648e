/- What the frames of the node texts' laws share: the words of the kinds, a variable that is named, an argument that is a node. -/
import Derived.Test.YthampfkicnakgaaGreatDoorPTFrame
import Derived.Test.YthampfkicnakgaaGreatDoorT14Node
import Derived.Test.YthampfkicnakgaaGreatDoorE2Args
import Derived.ChangeVars
import Derived.WideKeyArgs
import Derived.Lib.SmallJoins
namespace Go.Proofs.YthampfkicnakgaaGreatDoor
open Go.ChangeShapes Go.WideShapes Go.ChangeAt Go.RowKit Go.WideElems Go.Joins

/-- An array of strings that reads as a list of strings holds them, cell for cell. -/
theorem cells_of_strs {H : Type} {enc : TypeId × Value → H} {P : Program} {w : World} {base : Nat} {sp : Nat → Bool} {held : Bool} {fuel : Nat} {t e : TypeId} {n : Nat} {cs : List Value} {ls : List (List UInt8)} {p : List MemPlace}
    (ht : P.underlying t = some (.array n e)) (he : P.underlying e = some .string) (hce : P.cellsOf e = 1) (hct : P.cellsOf t = n)
    (h : DataW.trod enc P w base sp held fuel t cs = some (.agg (ls.map fun l => .lit (.string l)), p)) : cs = ls.map fun l => Value.string (bstr l) := by
  cases fuel with
  | zero => simp [DataW.trod] at h
  | succ fuel =>
    simp only [DataW.trod, ht, hce, hct, Nat.mul_one] at h
    split at h
    · rename_i hl
      obtain ⟨xs, hm, hx⟩ := Option.map_eq_some_iff.1 h
      have hxs : xs.map (·.1) = ls.map fun l => (DataW.lit (.string l) : DataW H) := by
        have := congrArg Prod.fst hx
        simpa using this
      have hxl : xs.length = n := by simpa using Lib.mapM_length hm
      have hzl : ls.length = n := by
        have := congrArg List.length hxs
        simp at this
        omega
      apply List.ext_getElem?
      intro i
      by_cases hi : i < n
      · obtain ⟨b, hb, hf⟩ := Lib.mapM_at hm i i (by simp [hi])
        obtain ⟨s, hc, rfl, _⟩ := DataW.trod_string he hf
        have h1 : cs[i]? = some (.string s) := by
          have := congrArg (·[0]?) hc
          simpa [List.getElem?_take, List.getElem?_drop] using this
        have h2 : (xs.map (·.1))[i]? = some (DataW.lit (.string s.data.toList) : DataW H) := by simp [hb]
        rw [hxs] at h2
        simp only [List.getElem?_map, Option.map_eq_some_iff, DataW.lit.injEq, Lit.string.injEq] at h2
        obtain ⟨l, hz', e⟩ := h2
        have hs : s = bstr l := by rw [e, bstr_eta]
        simp [h1, hz', hs]
      · rw [List.getElem?_eq_none (by omega), List.getElem?_eq_none (by simp; omega)]
    · cases h

/-- A named variable of the program's reads behind the call as it did. -/
theorem vars1_kept {H : Type} {enc : TypeId × Value → H} {W W' : World} {n : String} {t : TypeId} {g : Nat} {gs : List (DataW H)} {q : List MemPlace} (hg : Tryz.prog.globalNamed n = some g) (ht : (Tryz.prog.globals[g]?).map (·.type) = some t)
    (hr : Tryz.prog.readableRec t = true) (hrow : t < Tryz.prog.types.size) (h : DataW.TrodVars enc Tryz.prog W (fun _ => true) [n] gs q) (hb : Below W.heap.size W W') :
    ∃ pv, DataW.TrodVars enc Tryz.prog W' (fun b => decide (b < W.heap.size)) [n] gs pv := by
  obtain ⟨g', t', cs, fuel, d, p, rfl, h1, h2, h3, h4, _⟩ := trodVars_one h
  obtain rfl := Option.some.inj (hg.symm.trans h1)
  obtain rfl := Option.some.inj (ht.symm.trans h2)
  have hlt : ∀ x ∈ p, x.block < W.heap.size := DataW.trod_lt fuel _ _ _ h4
  have h3' : W'.var? Tryz.prog n = some cs := by
    simp only [World.var?, h1, Option.bind_some] at h3 ⊢
    have hgl : g < W.heap.size := by
      rcases Nat.lt_or_ge g W.heap.size with hh | hh
      · exact hh
      · rw [Array.getElem?_eq_none hh] at h3
        cases h3
    rw [hb.block g hgl]
    exact h3
  exact ⟨_, trodVars_mk1 h1 h2 h3' (DataW.trod_stays (kids_book laidOut_ hr) (book_sized hr) (fun h => by cases h) ⟨hrow, book_self t⟩ h4 (fun x hx => hb.same (hlt x hx)) (fun x hx => by simpa using hlt x hx))⟩

theorem gKw : Tryz.prog.globalNamed "loop.example/workplans/impl.kindWords" = some 1 := by kernel_rfl
theorem gKwT : (Tryz.prog.globals[1]?).map (·.type) = some 107 := by kernel_rfl
theorem kwords_of {rest : List (String × DataW Unit)} {W : World} (h : laidMet Tryz.prog (("loop.example/workplans/impl.kindWords", Rows.laid_loop_example_workplans_impl_kindWords) :: rest) W) : KWords W := by
  obtain ⟨ps, ⟨g, t, cs, fuel, p, q, hg, ht, hvar, hd, _, _⟩, _⟩ := h
  obtain rfl := Option.some.inj (gKw.symm.trans hg)
  obtain rfl := Option.some.inj (gKwT.symm.trans ht)
  have e := cells_of_strs (ls := [[102, 105, 120, 101, 100], [97, 100, 100], [116, 105, 109, 101, 115], [115, 117, 109, 115], [115, 111, 114, 116], [116, 117, 114, 110]]) Tryz.underlying107 Tryz.underlying9 (by kernel_rfl) (by kernel_rfl) hd
  intro k hk
  have hc := World.var?_cell gKw hvar k
  rw [hc, ← Array.getElem?_toList, e]
  rcases (show k = 0 ∨ k = 1 ∨ k = 2 ∨ k = 3 ∨ k = 4 ∨ k = 5 by omega) with rfl | rfl | rfl | rfl | rfl | rfl <;> rfl
theorem kw_kept {H : Type} {enc : TypeId × Value → H} {W W' : World} {gs : List (DataW H)} {q : List MemPlace} (h : DataW.TrodVars enc Tryz.prog W (fun _ => true) ["loop.example/workplans/impl.kindWords"] gs q) (hb : Below W.heap.size W W') :
    ∃ pv, DataW.TrodVars enc Tryz.prog W' (fun b => decide (b < W.heap.size)) ["loop.example/workplans/impl.kindWords"] gs pv :=
  vars1_kept gKw gKwT (by kernel_rfl) (of_decide_eq_true (by kernel_rfl)) h hb
set_option maxRecDepth 50000 in
theorem node_of_arg {H : Type} {enc : TypeId × Value → H} {W : World} {b0 : Nat} {v : Value} {d0 : DataW H} {p0 : List MemPlace}
    (hv : Value.okWide Tryz.prog W .any b0 77 v) (h0 : DataW.Trod enc Tryz.prog W 0 (fun _ => true) true 77 v d0 p0) : ∃ nd : Node, ∃ f r, v = .agg #[.int .i64 nd.kind, f, r] ∧ ArgI W.heap.size W f nd.frm ∧ ArgI W.heap.size W r nd.row := by
  obtain ⟨c0, c1, c2, y0, y1, y2, n, rfl, _, _, g0, g1, g2⟩ := open_agg3 Tryz.underlying77 (by kernel_rfl) (by kernel_rfl) hv h0
  obtain ⟨k, e0, _, _⟩ := DataW.trod_int Tryz.underlying3 g0
  obtain ⟨fl, h1⟩ := ints_of_cell g1
  obtain ⟨rl, h2⟩ := ints_of_cell g2
  obtain rfl : c0 = .int .i64 k := by simpa using e0
  exact ⟨⟨k, fl, rl⟩, c1, c2, rfl, h1, h2⟩
end Go.Proofs.YthampfkicnakgaaGreatDoor
