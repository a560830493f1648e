/- What the frames of the laws on RowFrom share: the library's variables, the world's shape. -/
import Derived.Test.YthampfkicnakgaaGreatDoorPTFrame
import Derived.Test.YthampfkicnakgaaGreatDoorT17Read
import Derived.Stop.LaidErr
import Derived.LaidHandle
import Derived.HandedShaped
import Derived.Lay
import Derived.ChangeMaps5
namespace Go.Proofs.YthampfkicnakgaaGreatDoor
open Go.ChangeShapes Go.WideShapes Go.ChangeAt Go.RowKit

/-- The contract is handed the world's shape besides. -/
theorem returnsInHanded_and_shaped {H : Type} {enc : TypeId × Value → H} {a : Assume} {C : Checked} {os : Os} {f : FuncId} {fn : Func} {s : ChangeSpec} {conds : List PathCond} {apart fresh handsOn again : Bool} {X : World → Array Value → Prop}
    (hX : ∀ (w w' : World) (args : Array Value), w.heap = w'.heap → X w args → X w' args)
    (own : ownKnob C.prog.godebug = none) (started : os.Started) (noInit : C.prog.inits.idxOf? f = none) (hfn : C.prog.funcs[f]? = some fn)
    (witness : ∃ (w : World) (tape : Tape) (i : Input), w.os = os ∧ (w.forCall tape i).Shaped C.prog ∧ i.vars = [] ∧ Input.okWide C.prog (w.forCall tape i) .any w.heap.size f i ∧
      ((s.pre enc C.prog fn conds apart (w.forCall tape i).memory i.args ∧ X (w.forCall tape i).memory i.args) ∧ sizedMet enc C.prog fn (OpenSpec.ofChange s) apart (w.forCall tape i).memory i.args) ∧ a.holds C.prog (lone (Frame.enter C.prog f i.args .normal) [] (w.forCall tape i)))
    (contract : ∀ (W : World) (base : Nat) (args : Array Value) (ds gs : List (DataW H)) (before : List MemPlace),
      (∀ (j : Nat) t v, fn.params[j]? = some t → args[j]? = some v → Value.okWide C.prog W .any base t v) →
      DataW.Whole enc C.prog fn.params.toList s.vars apart W args.toList ds gs before → X W args → W.ShapedOpen C.prog →
      Calls C.prog f args W fun e W' => ∃ v, e = .returned v ∧ s.post enc C.prog fn apart fresh handsOn again W args v W') :
    ReturnsInHanded a C os f .any (fun w args => (s.pre enc C.prog fn conds apart w args ∧ X w args) ∧ sizedMet enc C.prog fn (OpenSpec.ofChange s) apart w args) (s.post enc C.prog fn apart fresh handsOn again) := by
  refine returnsInHanded_of_calls own started noInit witness ?_
  intro w tape i _ hsh _ hok hpre hholds
  obtain ⟨_, _, _, fn', hfn', _, _, _, _, hval⟩ := hok
  have e : fn' = fn := Option.some.inj (hfn'.symm.trans hfn)
  subst e
  obtain ⟨⟨⟨ds, gs, before, hw, hc⟩, hx⟩, hz⟩ := hpre
  have hw' := DataW.Whole.of_heap (w' := w.forCall tape i) (by rfl) hw
  refine (contract (w.forCall tape i) w.heap.size i.args ds gs before hval hw' (hX _ _ _ (by rfl) hx) hsh).mono fun e W' ⟨v, he, hp⟩ => ?_
  subst he
  exact ChangeSpec.post_blind hp
theorem iface_of_trod {H : Type} {enc : TypeId × Value → H} {P : Program} {w : World} {base : Nat} {sp : Nat → Bool} {held : Bool} {fuel : Nat} {t : TypeId} {ms : Array (String × TypeId)} {cs : List Value} {nm : String} {d : DataW H} {p : List MemPlace}
    (hi : P.underlying t = some (.interface ms)) (h : DataW.trod enc P w base sp held fuel t cs = some (.iface nm d, p)) : ∃ u v, cs = [.iface u v] := by
  cases fuel with
  | zero => simp [DataW.trod] at h
  | succ n =>
    rcases cs with _ | ⟨c, cs⟩
    · simp [DataW.trod, hi] at h
    · rcases cs with _ | ⟨c2, cs⟩
      · cases c <;> first | exact ⟨_, _, rfl⟩ | (simp [DataW.trod, hi] at h)
      · simp [DataW.trod, hi] at h
theorem laidH_split {P : Program} {l hs : List (String × DataW Unit)} {hd : String × DataW Unit} {W : World} (e : (l.filter fun x => x.2.handleName?.isSome) = hd :: hs) (h : laidMetH P l W) :
    laidMet P (l.filter fun x => x.2.handleName?.isNone) W ∧ handlesMet P (hd :: hs) W := by
  unfold laidMetH at h
  rw [e] at h
  exact h
theorem etG : Tryz.prog.globalNamed "errors.errorType" = some 0 := by kernel_rfl
theorem etRt : (Tryz.prog.cutTypes.find? (·.1 == "internal/reflectlite.rtype")).map (·.2) = some 116 := by kernel_rfl
theorem etOne : ((List.range 247).filter fun t => Tryz.prog.rowNamed t [101, 114, 114, 111, 114]) = [48] := by kernel_rfl
theorem etSize : Tryz.prog.types.size = 247 := by kernel_rfl
theorem etHandle : typeHandle Tryz.prog 48 = .pointer (some ⟨10, 48, none⟩) := by kernel_rfl
theorem handle_of {W : World} (h : handlesMet Tryz.prog [("errors.errorType", Rows.laid_errors_errorType)] W) : W.cell? ⟨0, 0, none⟩ = some (.iface 116 (.agg #[.pointer (some ⟨10, 48, none⟩)])) := by
  obtain ⟨name, u, ty, e1, e2, e3, e4, e5⟩ := h _ (List.mem_singleton.2 rfl)
  have en : name = [101, 114, 114, 111, 114] := (Option.some.inj e1).symm
  subst en
  obtain rfl := Option.some.inj (etRt.symm.trans e2)
  have hm : ty ∈ (List.range 247).filter fun t => Tryz.prog.rowNamed t [101, 114, 114, 111, 114] := List.mem_filter.2 ⟨List.mem_range.2 (by rw [← etSize]; exact e3), e4⟩
  rw [etOne] at hm
  obtain rfl := List.mem_singleton.1 hm
  rw [etHandle] at e5
  simpa using World.var?_cell etG e5 0
theorem erG : Tryz.prog.globalNamed "strconv.ErrRange" = some 3 := by kernel_rfl
theorem erT : (Tryz.prog.globals[3]?).map (·.type) = some 48 := by kernel_rfl
theorem range_of {rest : List (String × DataW Unit)} {W : World} (h : laidMet Tryz.prog (("strconv.ErrRange", Rows.laid_strconv_ErrRange) :: rest) W) : ∃ te pe, W.cell? ⟨3, 0, none⟩ = some (.iface te pe) := by
  obtain ⟨ps, ⟨g, t, cs, fuel, p, q, hg, ht, hvar, hd, _, _⟩, _⟩ := h
  obtain rfl := Option.some.inj (erG.symm.trans hg)
  obtain rfl := Option.some.inj (erT.symm.trans ht)
  obtain ⟨u, v, e⟩ := iface_of_trod Tryz.underlying48 hd
  refine ⟨u, v, ?_⟩
  rw [World.var?_cell erG hvar 0, ← Array.getElem?_toList, e]
  rfl
theorem maxLen_of {W : World} (h : W.ShapedOpen Tryz.prog) : ∃ m, W.cell? ⟨5, 0, none⟩ = some (.int .i64 m) := Tryz.laysM147.s1_3 W h
/-- What the laws on RowFrom list, handles aside. -/
def rowFromLaid : List (String × DataW Unit) := [("math/bits.deBruijn32tab", Rows.laid_math_bits_deBruijn32tab), ("math/bits.deBruijn64tab", Rows.laid_math_bits_deBruijn64tab), ("internal/strconv.uint64pow10", Rows.laid_internal_strconv_uint64pow10), ("unicode/utf8.acceptRanges", Rows.laid_unicode_utf8_acceptRanges), ("strconv.ErrRange", Rows.laid_strconv_ErrRange), ("strconv.ErrSyntax", Rows.laid_strconv_ErrSyntax), ("unicode/utf8.first", Rows.laid_unicode_utf8_first)]
theorem fw_of {l : List (String × DataW Unit)} {W : World} (e1 : (l.filter fun x => x.2.handleName?.isSome) = [("errors.errorType", Rows.laid_errors_errorType)]) (e2 : (l.filter fun x => x.2.handleName?.isNone) = rowFromLaid) (h : laidMetH Tryz.prog l W) (hsh : W.ShapedOpen Tryz.prog) : FW W ∧ PTab W := by
  obtain ⟨h1, h2⟩ := laidH_split e1 h
  rw [e2] at h1
  exact ⟨⟨maxLen_of hsh, range_of (laidMet.tail (laidMet.tail (laidMet.tail (laidMet.tail h1)))), handle_of h2⟩, ptab_of (laidMet.tail (laidMet.tail h1))⟩
/-! The witness: what the door lays, and the listed data laid over it. -/
noncomputable def rowFromStart (os : Os) : World := (World.doorLaid Tryz.prog 400 os).layVars Tryz.prog rowFromLaid
theorem start_os (os : Os) : (rowFromStart os).os = os := World.layVars_os _ _ _
theorem start_fits (os : Os) : (World.doorLaid Tryz.prog 400 os).layFits Tryz.prog rowFromLaid [] = true := by kernel_rfl
theorem start_ifaces (os : Os) : (World.doorLaid Tryz.prog 400 os).layIfaces Tryz.prog rowFromLaid (rowFromStart os) = true := by kernel_rfl
theorem start_shaped (os : Os) (args : Array Value) : ((rowFromStart os).forCall (fun _ _ => 0) ⟨#[], args, []⟩).Shaped Tryz.prog := World.shaped_of_ZipB (by kernel_rfl) (by kernel_rfl)
theorem start_data (os : Os) (args : Array Value) : laidMet Tryz.prog rowFromLaid ((rowFromStart os).forCall (fun _ _ => 0) ⟨#[], args, []⟩).memory := by
  have e1 : (rowFromLaid.filter fun x => (rowFromLaid.map (·.1)).contains x.1) = rowFromLaid := List.filter_eq_self.2 fun x hx => List.contains_iff_mem.2 (List.mem_map.2 ⟨x, hx, rfl⟩)
  have e2 : (rowFromLaid.filter fun x => !(rowFromLaid.map (·.1)).contains x.1) = [] := List.filter_eq_nil_iff.2 fun x hx => by rw [List.contains_iff_mem.2 (List.mem_map.2 ⟨x, hx, rfl⟩)]; simp
  have h : laidMet Tryz.prog rowFromLaid (rowFromStart os) := laidMet_layVars (w0 := World.doorLaid Tryz.prog 400 os) (rowFromLaid.map (·.1)) [] (by rw [e1]; rfl) (by rw [e1]; exact start_fits os) (by rw [e1]; exact start_ifaces os) (by rw [e2]; exact LaidIn.none)
  exact h.of_heap (by simp [World.memory, World.forCall, Input.heap])
theorem start_met (os : Os) (args : Array Value) {l : List (String × DataW Unit)} (e2 : (l.filter fun x => x.2.handleName?.isNone) = rowFromLaid)
    (hh : (l.filter fun x => x.2.handleName?.isSome && x.2.funcsIn?.isNone).all (handleAtB Tryz.prog ((rowFromStart os).forCall (fun _ _ => 0) ⟨#[], args, []⟩).memory) = true)
    (hf : funcsRun Tryz.prog ((rowFromStart os).forCall (fun _ _ => 0) ⟨#[], args, []⟩).memory 8 ((funcsListed l).map (·.1)) = some ((funcsListed l).map (·.2.funcsOut))) :
    laidMetH Tryz.prog l ((rowFromStart os).forCall (fun _ _ => 0) ⟨#[], args, []⟩).memory :=
  laidMetH_of_parts3 (fuel := 8) (by rw [e2]; exact start_data os args) hh hf
end Go.Proofs.YthampfkicnakgaaGreatDoor
