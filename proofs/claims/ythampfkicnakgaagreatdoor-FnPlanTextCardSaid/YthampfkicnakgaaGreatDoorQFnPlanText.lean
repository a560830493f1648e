/- The law FnPlanText: whatever bytes it is given, it returns true, and what was there reads as it did; the library's tables are as the program's text lays them (the card ties them). Conditions: the row's own. -/
import Derived.Test.YthampfkicnakgaaGreatDoorPT2Frame
import Derived.Test.YthampfkicnakgaaGreatDoorL31PlanEnd
import Derived.Test.YthampfkicnakgaaGreatDoorCards
import Derived.Test.YthampfkicnakgaaGreatDoorTie
import Derived.SevenTiedAt
namespace Go.Proofs.YthampfkicnakgaaGreatDoor.fnPlanTextDone
open Go.ChangeShapes Go.WideShapes Go.ChangeAt Go.RowKit

/-- The world that the door leaves meets the condition. -/
theorem door_met (os : Os) (args : Array Value) : laidMetH Tryz.prog Rows.fnPlanTextRow.laid ((World.doorLaid Tryz.prog 400 os).forCall (fun _ _ => 0) ⟨#[], args, []⟩).memory :=
  laidMetH_of_parts3 (fuel := 8) (laidMet_of_run' 8 (by kernel_rfl) (by kernel_rfl)) (by kernel_rfl) (by kernel_rfl)
theorem ptab {W : World} (h : laidMetH Tryz.prog Rows.fnPlanTextRow.laid W) : PTab W := by
  rw [MakeChecks.laidMetH_plain _ _ _ (by kernel_rfl)] at h
  exact ptab_of (laidMet.tail (laidMet.tail h))
theorem kwords {W : World} (h : laidMetH Tryz.prog Rows.fnPlanTextRow.laid W) : KWords W := by
  rw [MakeChecks.laidMetH_plain _ _ _ (by kernel_rfl)] at h
  exact kwords_of (laidMet.tail (laidMet.tail (laidMet.tail h)))
set_option maxRecDepth 100000 in
theorem lifted (os : Os) (started : os.Started) (H : Type) (enc : TypeId × Value → H) :
    ReturnsInHanded {} Tryz.checked os 5 .any (fun w args => (Rows.fnPlanTextSpec.pre enc Tryz.prog Tryz.f5 [] false w args ∧ laidMetH Tryz.prog Rows.fnPlanTextRow.laid w) ∧ sizedMet enc Tryz.prog Tryz.f5 (OpenSpec.ofChange Rows.fnPlanTextSpec) false w args)
      (Rows.fnPlanTextSpec.post enc Tryz.prog Tryz.f5 false true false false) := by
  refine returnsInHanded_of_change_and (C := Tryz.checked) (X := fun w _ => laidMetH Tryz.prog Rows.fnPlanTextRow.laid w) (fun _ _ _ hh h => h.of_heap hh) own_ started (by kernel_rfl) Tryz.func5
    (ChangeSpec.witness_shaped (enc := enc) (C := Tryz.checked) (os := os) (X := fun w _ => laidMetH Tryz.prog Rows.fnPlanTextRow.laid w) false (World.doorLaid Tryz.prog 400 os) #[.slice none 0 0] 8 rfl (World.shaped_of_RefB (by kernel_rfl) (by kernel_rfl)) (by kernel_rfl) (by kernel_rfl) (by kernel_rfl) (door_met os _)) ?_
  intro W base args ds gs before hval0 hW _ _ hL _
  have hval : ∀ (j : Nat) t v, Tryz.f5.params[j]? = some t → args[j]? = some v → Value.okWide Tryz.prog W .any base t v := hval0
  have hW' := hW
  obtain ⟨p, q, hA0, hV, rfl, hfz, hnd⟩ := hW
  have hA : DataW.TrodAll enc Tryz.prog W 0 (fun _ => true) true Tryz.f5.params.toList args.toList ds p := hA0
  rw [Tryz.params5] at hA hval
  obtain ⟨v0, vs0, d0, ds0, p0, q0, hargs0, rfl, rfl, h0, r0⟩ := trodAll_cons hA
  obtain ⟨rfl, rfl, rfl⟩ := trodAll_nil r0
  obtain rfl : args = #[v0] := by cases args; simp_all
  obtain ⟨dg, rfl⟩ : ∃ dg, gs = [dg] := by
    obtain ⟨_, _, _, _, d, _, e, _⟩ := trodVars_one hV
    exact ⟨d, e⟩
  obtain ⟨a0, len0, cap0, rfl⟩ := okWide_slice Tryz.underlying22 (hval 0 22 v0 rfl rfl)
  have k0 := h0
  have lt0 : ∀ x ∈ p0, x.block < W.heap.size := by obtain ⟨m, hm⟩ := k0; exact DataW.trod_lt m _ _ _ hm
  obtain ⟨w0, x0⟩ := bytes_of_arg h0
  have hP := ptab hL
  have hK := kwords hL
  clear hA0 hval0
  refine (fnPlanText_any W (.slice a0 len0 cap0) len0 w0 x0 hP hK).mono fun e W' ⟨he, hgr⟩ => ?_
  have bel : Below W.heap.size W W' := gb_below hgr
  obtain ⟨pv, hpv⟩ := kw_kept hV bel
  subst he
  exact ⟨_, rfl, _, _, _, [], _, pv, hW', trodAll_mk1 (shut_bool Tryz.underlying4 _), (trodAll_cons_mk (Below.trod laidOut_ (by kernel_rfl) (of_decide_eq_true (by kernel_rfl)) k0 bel lt0) trodAll_mk0), hpv, bel.frame _, fun h => by cases h⟩
theorem joined : joinedFacts Tryz.prog 5 Tryz.f5 Rows.fnPlanTextSpec Rows.fnPlanTextRow = true := by kernel_rfl
theorem inst : Tryz.f5.isInstance Tryz.prog "" [] := inst_gen rfl rfl (by kernel_rfl)
theorem notMain : Check.packageOf Tryz.f5.name ≠ "main" := by decide +kernel
theorem wrapped : Tryz.f5.isWrapper Tryz.prog false "" := wrap_gen Tryz.prog Tryz.f5 notMain
theorem row_holds : Rows.FnPlanTextSaid :=
  OpenClaim.holds_of_wide 5 Tryz.f5 rfl rfl rfl rfl rfl rfl rfl ⟨rfl, rfl, rfl, rfl, rfl⟩ rfl rfl rfl rfl rfl (by kernel_rfl) Tryz.func5 joined
    inst wrapped
    (fun os started H enc _ => lifted os started H enc)
theorem proved : Rows.FnPlanTextCardSaid :=
  Claim7.holds_tied_plain_at .later [] [.data, .data, .data, .data] true Rows.fnPlanTextCard.stood.harness true
    row_holds (fun _ h => by cases h) (by kernel_rfl) (fun _ h => by cases h) fnPlanText_row_tie rfl ⟨rfl, rfl⟩ (by kernel_rfl) rfl
    (fun f fn hf hfn => by
      obtain rfl : f = 5 := Option.some.inj ((show Tryz.prog.funcNamed "loop.example/workplans/laws.FnPlanText" = some 5 by kernel_rfl).symm.trans hf) |>.symm
      obtain rfl : fn = Tryz.f5 := (Option.some.inj (Tryz.func5.symm.trans hfn)).symm
      exact ⟨by kernel_rfl, fun j t ht => by
        rw [Tryz.params5] at ht
        have hm : t ∈ [22] := by simpa using Array.mem_of_getElem? ht
        have hall : ([22].all fun u => !Tryz.prog.wantsStandIn u) = true := by kernel_rfl
        exact (show Tryz.prog.wantsStandIn t = false by simpa using List.all_eq_true.1 hall t hm)⟩)
    (by kernel_rfl)
#print axioms proved
end Go.Proofs.YthampfkicnakgaaGreatDoor.fnPlanTextDone
