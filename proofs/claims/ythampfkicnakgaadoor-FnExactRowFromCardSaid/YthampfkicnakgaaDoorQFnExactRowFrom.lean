/- The law FnExactRowFrom: whatever text it is given, it returns true, and what was there reads as it did; the library's tables are as the program's text lays them (the card ties them). Conditions: the row's own. -/
import Derived.Test.YthampfkicnakgaaDoorPT3Frame
import Derived.Test.YthampfkicnakgaaDoorL26ExRowFrom
import Derived.Test.YthampfkicnakgaaDoorCards
import Derived.Test.YthampfkicnakgaaDoorTie
import Derived.SevenTiedAt
namespace Go.Proofs.YthampfkicnakgaaDoor.fnExactRowFromDone
open Go.ChangeShapes Go.WideShapes Go.ChangeAt Go.RowKit

/-- The world that the door leaves meets the condition. -/
theorem door_met (os : Os) (args : Array Value) : laidMetH Tryd.prog Rows.fnExactRowFromRow.laid ((rowFromStart os).forCall (fun _ _ => 0) ⟨#[], args, []⟩).memory :=
  start_met os args (by kernel_rfl) (by kernel_rfl) (by kernel_rfl)
theorem lead {W : World} (h : laidMetH Tryd.prog Rows.fnExactRowFromRow.laid W) (hsh : W.ShapedOpen Tryd.prog) : FW W ∧ PTab W := fw_of (by kernel_rfl) (by kernel_rfl) h hsh
set_option maxRecDepth 100000 in
theorem lifted (os : Os) (started : os.Started) (H : Type) (enc : TypeId × Value → H) :
    ReturnsInHanded {} Tryd.checked os 8 .any (fun w args => (Rows.fnExactRowFromSpec.pre enc Tryd.prog Tryd.f8 [] false w args ∧ laidMetH Tryd.prog Rows.fnExactRowFromRow.laid w) ∧ sizedMet enc Tryd.prog Tryd.f8 (OpenSpec.ofChange Rows.fnExactRowFromSpec) false w args)
      (Rows.fnExactRowFromSpec.post enc Tryd.prog Tryd.f8 false true false false) := by
  refine returnsInHanded_and_shaped (C := Tryd.checked) (X := fun w _ => laidMetH Tryd.prog Rows.fnExactRowFromRow.laid w) (fun _ _ _ hh h => h.of_heap hh) own_ started (by kernel_rfl) Tryd.func8
    (ChangeSpec.witness_shaped (enc := enc) (C := Tryd.checked) (os := os) (X := fun w _ => laidMetH Tryd.prog Rows.fnExactRowFromRow.laid w) false (rowFromStart os) #[.string ⟨#[]⟩] 8 (start_os os) (start_shaped os _) (by kernel_rfl) (by kernel_rfl) (by kernel_rfl) (door_met os _)) ?_
  intro W base args ds gs before hval0 hW hL hsh
  have hval : ∀ (j : Nat) t v, Tryd.f8.params[j]? = some t → args[j]? = some v → Value.okWide Tryd.prog W .any base t v := hval0
  have hW' := hW
  obtain ⟨p, q, hA0, hV, rfl, hfz, hnd⟩ := hW
  have hA : DataW.TrodAll enc Tryd.prog W 0 (fun _ => true) true Tryd.f8.params.toList args.toList ds p := hA0
  rw [Tryd.params8] at hA hval
  obtain ⟨v0, vs0, d0, ds0, p0, q0, hargs0, rfl, rfl, h0, r0⟩ := trodAll_cons hA
  obtain ⟨rfl, rfl, rfl⟩ := trodAll_nil r0
  obtain rfl : args = #[v0] := by cases args; simp_all
  obtain ⟨rfl, rfl⟩ := trodVars_none hV
  obtain ⟨str, rfl, _, _, hsz⟩ := Go.ChangeMaps.open_string Tryd.underlying9 (hval 0 9 v0 rfl rfl) h0
  obtain ⟨S, rfl⟩ : ∃ S, str = bstr S := ⟨str.data.toList, (bstr_eta str).symm⟩
  rw [bstr_size] at hsz
  have k0 := h0
  have lt0 : ∀ x ∈ p0, x.block < W.heap.size := by obtain ⟨m, hm⟩ := k0; exact DataW.trod_lt m _ _ _ hm
  obtain ⟨hF, hP⟩ := lead hL hsh
  clear hA0 hval0
  refine (fnExactRowFrom_any W S (by unfold maxLen at hsz; omega) hF).mono fun e W' ⟨he, hgr⟩ => ?_
  have bel : Below W.heap.size W W' := gb_below hgr
  subst he
  exact ⟨_, rfl, _, _, _, [], _, [], hW', trodAll_mk1 (shut_bool Tryd.underlying4 _), (trodAll_cons_mk (Below.trod laidOut_ (by kernel_rfl) (of_decide_eq_true (by kernel_rfl)) k0 bel lt0) trodAll_mk0), rfl, bel.frame _, fun h => by cases h⟩
theorem joined : joinedFacts Tryd.prog 8 Tryd.f8 Rows.fnExactRowFromSpec Rows.fnExactRowFromRow = true := by kernel_rfl
theorem inst : Tryd.f8.isInstance Tryd.prog "" [] := inst_gen rfl rfl (by kernel_rfl)
theorem notMain : Check.packageOf Tryd.f8.name ≠ "main" := by decide +kernel
theorem wrapped : Tryd.f8.isWrapper Tryd.prog false "" := wrap_gen Tryd.prog Tryd.f8 notMain
theorem row_holds : Rows.FnExactRowFromSaid :=
  OpenClaim.holds_of_wide 8 Tryd.f8 rfl rfl rfl rfl rfl rfl rfl ⟨rfl, rfl, rfl, rfl, rfl⟩ rfl rfl rfl rfl rfl (by kernel_rfl) Tryd.func8 joined
    inst wrapped
    (fun os started H enc _ => lifted os started H enc)
theorem proved : Rows.FnExactRowFromCardSaid :=
  Claim7.holds_tied_plain_at .later [] [.data, .data, .data, .data, .handle, .sentinel, .sentinel, .pinned] true Rows.fnExactRowFromCard.stood.harness true
    row_holds (fun _ h => by cases h) (by kernel_rfl) (fun _ h => by cases h) fnExactRowFrom_row_tie rfl ⟨rfl, rfl⟩ (by kernel_rfl) rfl
    (fun f fn hf hfn => by
      obtain rfl : f = 8 := Option.some.inj ((show Tryd.prog.funcNamed "loop.example/workplans/laws.FnExactRowFrom" = some 8 by kernel_rfl).symm.trans hf) |>.symm
      obtain rfl : fn = Tryd.f8 := (Option.some.inj (Tryd.func8.symm.trans hfn)).symm
      exact ⟨by kernel_rfl, fun j t ht => by
        rw [Tryd.params8] at ht
        have hm : t ∈ [9] := by simpa using Array.mem_of_getElem? ht
        have hall : ([9].all fun u => !Tryd.prog.wantsStandIn u) = true := by kernel_rfl
        exact (show Tryd.prog.wantsStandIn t = false by simpa using List.all_eq_true.1 hall t hm)⟩)
    (by kernel_rfl)
#print axioms proved
end Go.Proofs.YthampfkicnakgaaDoor.fnExactRowFromDone
