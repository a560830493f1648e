/- The law FnTurnStealDeques: whatever bytes it is given, it returns true, and what was there reads as it did; the library's tables are as the program's text lays them (the card ties them). Conditions: the row's own. -/
import Derived.Test.YtihobnheficpjaaGreatDoorM35
import Derived.Test.YtihobnheficpjaaGreatDoorL45StealDq
import Derived.Test.YtihobnheficpjaaGreatDoorCards
import Derived.Test.YtihobnheficpjaaGreatDoorTie
import Derived.SevenTiedAt
namespace Go.Proofs.YtihobnheficpjaaGreatDoor.fnTurnStealDequesDone
open Go.ChangeShapes Go.WideShapes Go.ChangeAt Go.RowKit

theorem sent {W : World} (h : laidMetH Tryz.prog Rows.fnTurnStealDequesRow.laid W) : ∃ a, ErrTurn W a := by
  rw [MakeChecks.laidMetH_plain _ _ _ (by kernel_rfl)] at h
  exact errTurn_of h
set_option maxRecDepth 100000 in
theorem lifted (os : Os) (started : os.Started) (H : Type) (enc : TypeId × Value → H) :
    ReturnsInHanded {} Tryz.checked os 7 .any (fun w args => (Rows.fnTurnStealDequesSpec.pre enc Tryz.prog Tryz.f7 [] false w args ∧ laidMetH Tryz.prog Rows.fnTurnStealDequesRow.laid w) ∧ sizedMet enc Tryz.prog Tryz.f7 (OpenSpec.ofChange Rows.fnTurnStealDequesSpec) false w args)
      (Rows.fnTurnStealDequesSpec.post enc Tryz.prog Tryz.f7 false true false false) := by
  refine returnsInHanded_of_change_and (C := Tryz.checked) (X := fun w _ => laidMetH Tryz.prog Rows.fnTurnStealDequesRow.laid w) (fun _ _ _ hh h => h.of_heap hh) own_ started (by kernel_rfl) Tryz.func7
    (ChangeSpec.witness_shaped (enc := enc) (C := Tryz.checked) (os := os) (X := fun w _ => laidMetH Tryz.prog Rows.fnTurnStealDequesRow.laid w) false (World.doorLaid Tryz.prog 400 os) #[.slice none 0 0] 8 rfl (doorShaped os _) (by kernel_rfl) (by kernel_rfl) (by kernel_rfl) (doorMet os _)) ?_
  intro W base args ds gs before hval0 hW _ _ hL _
  have hval : ∀ (j : Nat) t v, Tryz.f7.params[j]? = some t → args[j]? = some v → Value.okWide Tryz.prog W .any base t v := hval0
  have hW' := hW
  obtain ⟨p, q, hA0, hV, rfl, hfz, hnd⟩ := hW
  have hA : DataW.TrodAll enc Tryz.prog W 0 (fun _ => true) true Tryz.f7.params.toList args.toList ds p := hA0
  rw [Tryz.params7] at hA hval
  obtain ⟨v0, vs0, d0, ds0, p0, q0, hargs0, rfl, rfl, h0, r0⟩ := trodAll_cons hA
  obtain ⟨rfl, rfl, rfl⟩ := trodAll_nil r0
  obtain rfl : args = #[v0] := by cases args; simp_all
  obtain ⟨dg, rfl⟩ : ∃ dg, gs = [dg] := by
    obtain ⟨_, _, _, _, d, _, e, _⟩ := trodVars_one hV
    exact ⟨d, e⟩
  obtain ⟨a0, len0, cap0, rfl⟩ := okWide_slice Tryz.underlying22 (hval 0 22 v0 rfl rfl)
  have k0 := h0
  have lt0 : ∀ x ∈ p0, x.block < W.heap.size := by obtain ⟨m, hm⟩ := k0; exact DataW.trod_lt m _ _ _ hm
  obtain ⟨w0, x0⟩ := bytes_of_arg h0
  obtain ⟨a, hP⟩ := sent hL
  clear hA0 hval0
  refine (fnTurnStealDeques_any W (.slice a0 len0 cap0) len0 w0 x0 a hP).mono fun e W' ⟨he, hgr⟩ => ?_
  have bel : Below W.heap.size W W' := gb_below hgr
  obtain ⟨pv, hpv⟩ := et_kept hV bel
  subst he
  exact ⟨_, rfl, _, _, _, [], _, pv, hW', trodAll_mk1 (shut_bool Tryz.underlying4 _), (trodAll_cons_mk (Below.trod laidOut_ (by kernel_rfl) (of_decide_eq_true (by kernel_rfl)) k0 bel lt0) trodAll_mk0), hpv, bel.frame _, fun h => by cases h⟩
theorem c0 : Rows.fnTurnStealDequesRow.wf (OpenSpec.ofChange Rows.fnTurnStealDequesSpec) = true := by kernel_rfl
theorem c3 : (Tryz.f7.params.all (Tryz.prog.readableRec ·) && namedTie Tryz.prog Rows.fnTurnStealDequesRow.named Rows.fnTurnStealDequesSpec.vars && (Rows.fnTurnStealDequesRow.stops == []) && (Tryz.prog.stops == []) && (Rows.fnTurnStealDequesRow.knobs == []) && (Tryz.prog.stopKnobs == [])) = true := by kernel_rfl
theorem c4 : (Rows.fnTurnStealDequesRow.inPlace == Tryz.prog.inPlace 7) = true := by kernel_rfl
theorem c5 : (Rows.fnTurnStealDequesRow.unfollowed == Tryz.prog.unfollowed 7) = true := by kernel_rfl
theorem c6 : (Rows.fnTurnStealDequesRow.recurses == Tryz.prog.recurses 7) = true := by kernel_rfl
theorem c7 : (Rows.fnTurnStealDequesRow.named == Tryz.prog.varsNamed 7) = true := by kernel_rfl
theorem joined : joinedFacts Tryz.prog 7 Tryz.f7 Rows.fnTurnStealDequesSpec Rows.fnTurnStealDequesRow = true :=
  joined_gen c0 laidOut_ mapsRowed_ c3 c4 c5 c6 c7 (by kernel_rfl) (by kernel_rfl) (by kernel_rfl) mayEnter_ (by rw [liftsFinal_]; rfl) (by rw [make_]; rfl) (by kernel_rfl) (by kernel_rfl)
theorem inst : Tryz.f7.isInstance Tryz.prog "" [] := inst_gen rfl rfl (by kernel_rfl)
theorem notMain : Check.packageOf Tryz.f7.name ≠ "main" := by decide +kernel
theorem wrapped : Tryz.f7.isWrapper Tryz.prog false "" := wrap_gen Tryz.prog Tryz.f7 notMain
theorem row_holds : Rows.FnTurnStealDequesSaid :=
  OpenClaim.holds_of_wide 7 Tryz.f7 rfl rfl rfl rfl rfl rfl rfl ⟨rfl, rfl, rfl, rfl, rfl⟩ rfl rfl rfl rfl rfl (by kernel_rfl) Tryz.func7 joined
    inst wrapped
    (fun os started H enc _ => lifted os started H enc)
theorem p1 : Rows.fnTurnStealDequesRow.wfByText (OpenSpec.ofChange Rows.fnTurnStealDequesSpec) = true := by kernel_rfl
theorem p4 : false = Rows.fnTurnStealDequesRow.goesBy Tryz.pinned.checked.prog := by kernel_rfl
theorem proved : Rows.FnTurnStealDequesCardSaid :=
  Claim7.holds_tied_plain_at .later [] [.sentinel] true Rows.fnTurnStealDequesCard.stood.harness true
    row_holds (fun _ h => by cases h) p1 (fun _ h => by cases h) fnTurnStealDeques_row_tie rfl ⟨rfl, rfl⟩ mainIs_ rfl
    (fun f fn hf hfn => by
      obtain rfl : f = 7 := Option.some.inj ((show Tryz.prog.funcNamed "loop.example/workplans/laws.FnTurnStealDeques" = some 7 by kernel_rfl).symm.trans hf) |>.symm
      obtain rfl : fn = Tryz.f7 := (Option.some.inj (Tryz.func7.symm.trans hfn)).symm
      exact ⟨looks_, fun j t ht => by
        rw [Tryz.params7] at ht
        have hm : t ∈ [22] := by simpa using Array.mem_of_getElem? ht
        have hall : ([22].all fun u => !Tryz.prog.wantsStandIn u) = true := by kernel_rfl
        exact (show Tryz.prog.wantsStandIn t = false by simpa using List.all_eq_true.1 hall t hm)⟩)
    p4
#print axioms proved
end Go.Proofs.YtihobnheficpjaaGreatDoor.fnTurnStealDequesDone
