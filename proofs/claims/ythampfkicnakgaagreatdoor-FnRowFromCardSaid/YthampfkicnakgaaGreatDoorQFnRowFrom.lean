/- The law FnRowFrom: whatever bytes it is given, it returns true, and what was there reads as it did; the library's tables are as the program's text lays them (the card ties them). Conditions: the row's own. -/
import Derived.Test.YthampfkicnakgaaGreatDoorPT3Frame
import Derived.Test.YthampfkicnakgaaGreatDoorL29RowFrom
import Derived.Test.YthampfkicnakgaaGreatDoorCards
import Derived.Test.YthampfkicnakgaaGreatDoorTie
import Derived.SevenTiedAt
namespace Go.Proofs.YthampfkicnakgaaGreatDoor.fnRowFromDone
open Go.ChangeShapes Go.WideShapes Go.ChangeAt Go.RowKit

/-- The world that the door leaves meets the condition. -/
theorem door_met (os : Os) (args : Array Value) : laidMetH Tryz.prog Rows.fnRowFromRow.laid ((rowFromStart os).forCall (fun _ _ => 0) ⟨#[], args, []⟩).memory :=
  start_met os args (by kernel_rfl) (by kernel_rfl) (by kernel_rfl)
theorem lead {W : World} (h : laidMetH Tryz.prog Rows.fnRowFromRow.laid W) (hsh : W.ShapedOpen Tryz.prog) : FW W ∧ PTab W := fw_of (by kernel_rfl) (by kernel_rfl) h hsh
set_option maxRecDepth 100000 in
theorem lifted (os : Os) (started : os.Started) (H : Type) (enc : TypeId × Value → H) :
    ReturnsInHanded {} Tryz.checked os 3 .any (fun w args => (Rows.fnRowFromSpec.pre enc Tryz.prog Tryz.f3 [] false w args ∧ laidMetH Tryz.prog Rows.fnRowFromRow.laid w) ∧ sizedMet enc Tryz.prog Tryz.f3 (OpenSpec.ofChange Rows.fnRowFromSpec) false w args)
      (Rows.fnRowFromSpec.post enc Tryz.prog Tryz.f3 false true false false) := by
  refine returnsInHanded_and_shaped (C := Tryz.checked) (X := fun w _ => laidMetH Tryz.prog Rows.fnRowFromRow.laid w) (fun _ _ _ hh h => h.of_heap hh) own_ started (by kernel_rfl) Tryz.func3
    (ChangeSpec.witness_shaped (enc := enc) (C := Tryz.checked) (os := os) (X := fun w _ => laidMetH Tryz.prog Rows.fnRowFromRow.laid w) false (rowFromStart os) #[.slice none 0 0] 8 (start_os os) (start_shaped os _) (by kernel_rfl) (by kernel_rfl) (by kernel_rfl) (door_met os _)) ?_
  intro W base args ds gs before hval0 hW hL hsh
  have hval : ∀ (j : Nat) t v, Tryz.f3.params[j]? = some t → args[j]? = some v → Value.okWide Tryz.prog W .any base t v := hval0
  have hW' := hW
  obtain ⟨p, q, hA0, hV, rfl, hfz, hnd⟩ := hW
  have hA : DataW.TrodAll enc Tryz.prog W 0 (fun _ => true) true Tryz.f3.params.toList args.toList ds p := hA0
  rw [Tryz.params3] at hA hval
  obtain ⟨v0, vs0, d0, ds0, p0, q0, hargs0, rfl, rfl, h0, r0⟩ := trodAll_cons hA
  obtain ⟨rfl, rfl, rfl⟩ := trodAll_nil r0
  obtain rfl : args = #[v0] := by cases args; simp_all
  obtain ⟨rfl, rfl⟩ := trodVars_none hV
  obtain ⟨a0, len0, cap0, rfl⟩ := okWide_slice Tryz.underlying22 (hval 0 22 v0 rfl rfl)
  have k0 := h0
  have lt0 : ∀ x ∈ p0, x.block < W.heap.size := by obtain ⟨m, hm⟩ := k0; exact DataW.trod_lt m _ _ _ hm
  obtain ⟨w0, x0⟩ := bytes_of_arg h0
  obtain ⟨hF, hP⟩ := lead hL hsh
  clear hA0 hval0
  refine (fnRowFrom_any W (.slice a0 len0 cap0) len0 w0 x0 hP hF).mono fun e W' ⟨he, hgr⟩ => ?_
  have bel : Below W.heap.size W W' := gb_below hgr
  subst he
  exact ⟨_, rfl, _, _, _, [], _, [], hW', trodAll_mk1 (shut_bool Tryz.underlying4 _), (trodAll_cons_mk (Below.trod laidOut_ (by kernel_rfl) (of_decide_eq_true (by kernel_rfl)) k0 bel lt0) trodAll_mk0), rfl, bel.frame _, fun h => by cases h⟩
theorem joined : joinedFacts Tryz.prog 3 Tryz.f3 Rows.fnRowFromSpec Rows.fnRowFromRow = true := by kernel_rfl
theorem inst : Tryz.f3.isInstance Tryz.prog "" [] := inst_gen rfl rfl (by kernel_rfl)
theorem notMain : Check.packageOf Tryz.f3.name ≠ "main" := by decide +kernel
theorem wrapped : Tryz.f3.isWrapper Tryz.prog false "" := wrap_gen Tryz.prog Tryz.f3 notMain
theorem row_holds : Rows.FnRowFromSaid :=
  OpenClaim.holds_of_wide 3 Tryz.f3 rfl rfl rfl rfl rfl rfl rfl ⟨rfl, rfl, rfl, rfl, rfl⟩ rfl rfl rfl rfl rfl (by kernel_rfl) Tryz.func3 joined
    inst wrapped
    (fun os started H enc _ => lifted os started H enc)
theorem proved : Rows.FnRowFromCardSaid :=
  Claim7.holds_tied_plain_at .later [] [.data, .data, .data, .data, .handle, .sentinel, .sentinel, .pinned] true Rows.fnRowFromCard.stood.harness true
    row_holds (fun _ h => by cases h) (by kernel_rfl) (fun _ h => by cases h) fnRowFrom_row_tie rfl ⟨rfl, rfl⟩ (by kernel_rfl) rfl
    (fun f fn hf hfn => by
      obtain rfl : f = 3 := Option.some.inj ((show Tryz.prog.funcNamed "loop.example/workplans/laws.FnRowFrom" = some 3 by kernel_rfl).symm.trans hf) |>.symm
      obtain rfl : fn = Tryz.f3 := (Option.some.inj (Tryz.func3.symm.trans hfn)).symm
      exact ⟨by kernel_rfl, fun j t ht => by
        rw [Tryz.params3] at ht
        have hm : t ∈ [22] := by simpa using Array.mem_of_getElem? ht
        have hall : ([22].all fun u => !Tryz.prog.wantsStandIn u) = true := by kernel_rfl
        exact (show Tryz.prog.wantsStandIn t = false by simpa using List.all_eq_true.1 hall t hm)⟩)
    (by kernel_rfl)
#print axioms proved
end Go.Proofs.YthampfkicnakgaaGreatDoor.fnRowFromDone
