/- The law FnLoseWorkerAll: whatever bytes it is given, it returns true, and what was there reads as it did; the library's tables are as the program's text lays them (the card ties them). Conditions: the row's own. -/
import Derived.Test.YtihobnheficpjaaGreatDoorM35
import Derived.Test.YtihobnheficpjaaGreatDoorL50LoseAll
import Derived.Test.YtihobnheficpjaaGreatDoorCards
import Derived.Test.YtihobnheficpjaaGreatDoorTie
import Derived.SevenTiedAt
namespace Go.Proofs.YtihobnheficpjaaGreatDoor.fnLoseWorkerAllDone
open Go.ChangeShapes Go.WideShapes Go.ChangeAt Go.RowKit

theorem sent {W : World} (h : laidMetH Tryz.prog Rows.fnLoseWorkerAllRow.laid W) : ∃ a, ErrTurn W a := by
  rw [MakeChecks.laidMetH_plain _ _ _ (by kernel_rfl)] at h
  exact errTurn_of h
set_option maxRecDepth 100000 in
theorem lifted (os : Os) (started : os.Started) (H : Type) (enc : TypeId × Value → H) :
    ReturnsInHanded {} Tryz.checked os 14 .any (fun w args => (Rows.fnLoseWorkerAllSpec.pre enc Tryz.prog Tryz.f14 [] false w args ∧ laidMetH Tryz.prog Rows.fnLoseWorkerAllRow.laid w) ∧ sizedMet enc Tryz.prog Tryz.f14 (OpenSpec.ofChange Rows.fnLoseWorkerAllSpec) false w args)
      (Rows.fnLoseWorkerAllSpec.post enc Tryz.prog Tryz.f14 false true false false) := by
  refine returnsInHanded_of_change_and (C := Tryz.checked) (X := fun w _ => laidMetH Tryz.prog Rows.fnLoseWorkerAllRow.laid w) (fun _ _ _ hh h => h.of_heap hh) own_ started (by kernel_rfl) Tryz.func14
    (ChangeSpec.witness_shaped (enc := enc) (C := Tryz.checked) (os := os) (X := fun w _ => laidMetH Tryz.prog Rows.fnLoseWorkerAllRow.laid w) false (World.doorLaid Tryz.prog 400 os) #[.slice none 0 0] 8 rfl (doorShaped os _) (by kernel_rfl) (by kernel_rfl) (by kernel_rfl) (doorMet os _)) ?_
  intro W base args ds gs before hval0 hW _ _ hL _
  have hval : ∀ (j : Nat) t v, Tryz.f14.params[j]? = some t → args[j]? = some v → Value.okWide Tryz.prog W .any base t v := hval0
  have hW' := hW
  obtain ⟨p, q, hA0, hV, rfl, hfz, hnd⟩ := hW
  have hA : DataW.TrodAll enc Tryz.prog W 0 (fun _ => true) true Tryz.f14.params.toList args.toList ds p := hA0
  rw [Tryz.params14] at hA hval
  obtain ⟨v0, vs0, d0, ds0, p0, q0, hargs0, rfl, rfl, h0, r0⟩ := trodAll_cons hA
  obtain ⟨rfl, rfl, rfl⟩ := trodAll_nil r0
  obtain rfl : args = #[v0] := by cases args; simp_all
  obtain ⟨dg, rfl⟩ : ∃ dg, gs = [dg] := by
    obtain ⟨_, _, _, _, d, _, e, _⟩ := trodVars_one hV
    exact ⟨d, e⟩
  obtain ⟨a0, len0, cap0, rfl⟩ := okWide_slice Tryz.underlying22 (hval 0 22 v0 rfl rfl)
  have k0 := h0
  have lt0 : ∀ x ∈ p0, x.block < W.heap.size := by obtain ⟨m, hm⟩ := k0; exact DataW.trod_lt m _ _ _ hm
  obtain ⟨w0, x0⟩ := bytes_of_arg h0
  obtain ⟨a, hP⟩ := sent hL
  clear hA0 hval0
  refine (fnLoseWorkerAll_any W (.slice a0 len0 cap0) len0 w0 x0 a hP).mono fun e W' ⟨he, hgr⟩ => ?_
  have bel : Below W.heap.size W W' := gb_below hgr
  obtain ⟨pv, hpv⟩ := et_kept hV bel
  subst he
  exact ⟨_, rfl, _, _, _, [], _, pv, hW', trodAll_mk1 (shut_bool Tryz.underlying4 _), (trodAll_cons_mk (Below.trod laidOut_ (by kernel_rfl) (of_decide_eq_true (by kernel_rfl)) k0 bel lt0) trodAll_mk0), hpv, bel.frame _, fun h => by cases h⟩
theorem c0 : Rows.fnLoseWorkerAllRow.wf (OpenSpec.ofChange Rows.fnLoseWorkerAllSpec) = true := by kernel_rfl
theorem c3 : (Tryz.f14.params.all (Tryz.prog.readableRec ·) && namedTie Tryz.prog Rows.fnLoseWorkerAllRow.named Rows.fnLoseWorkerAllSpec.vars && (Rows.fnLoseWorkerAllRow.stops == []) && (Tryz.prog.stops == []) && (Rows.fnLoseWorkerAllRow.knobs == []) && (Tryz.prog.stopKnobs == [])) = true := by kernel_rfl
theorem c4 : (Rows.fnLoseWorkerAllRow.inPlace == Tryz.prog.inPlace 14) = true := by kernel_rfl
theorem c5 : (Rows.fnLoseWorkerAllRow.unfollowed == Tryz.prog.unfollowed 14) = true := by kernel_rfl
theorem c6 : (Rows.fnLoseWorkerAllRow.recurses == Tryz.prog.recurses 14) = true := by kernel_rfl
theorem c7 : (Rows.fnLoseWorkerAllRow.named == Tryz.prog.varsNamed 14) = true := by kernel_rfl
theorem joined : joinedFacts Tryz.prog 14 Tryz.f14 Rows.fnLoseWorkerAllSpec Rows.fnLoseWorkerAllRow = true :=
  joined_gen c0 laidOut_ mapsRowed_ c3 c4 c5 c6 c7 (by kernel_rfl) (by kernel_rfl) (by kernel_rfl) mayEnter_ (by rw [liftsFinal_]; rfl) (by rw [make_]; rfl) (by kernel_rfl) (by kernel_rfl)
theorem inst : Tryz.f14.isInstance Tryz.prog "" [] := inst_gen rfl rfl (by kernel_rfl)
theorem notMain : Check.packageOf Tryz.f14.name ≠ "main" := by decide +kernel
theorem wrapped : Tryz.f14.isWrapper Tryz.prog false "" := wrap_gen Tryz.prog Tryz.f14 notMain
theorem row_holds : Rows.FnLoseWorkerAllSaid :=
  OpenClaim.holds_of_wide 14 Tryz.f14 rfl rfl rfl rfl rfl rfl rfl ⟨rfl, rfl, rfl, rfl, rfl⟩ rfl rfl rfl rfl rfl (by kernel_rfl) Tryz.func14 joined
    inst wrapped
    (fun os started H enc _ => lifted os started H enc)
theorem p1 : Rows.fnLoseWorkerAllRow.wfByText (OpenSpec.ofChange Rows.fnLoseWorkerAllSpec) = true := by kernel_rfl
theorem p4 : false = Rows.fnLoseWorkerAllRow.goesBy Tryz.pinned.checked.prog := by kernel_rfl
theorem proved : Rows.FnLoseWorkerAllCardSaid :=
  Claim7.holds_tied_plain_at .later [] [.sentinel] true Rows.fnLoseWorkerAllCard.stood.harness true
    row_holds (fun _ h => by cases h) p1 (fun _ h => by cases h) fnLoseWorkerAll_row_tie rfl ⟨rfl, rfl⟩ mainIs_ rfl
    (fun f fn hf hfn => by
      obtain rfl : f = 14 := Option.some.inj ((show Tryz.prog.funcNamed "loop.example/workplans/laws.FnLoseWorkerAll" = some 14 by kernel_rfl).symm.trans hf) |>.symm
      obtain rfl : fn = Tryz.f14 := (Option.some.inj (Tryz.func14.symm.trans hfn)).symm
      exact ⟨looks_, fun j t ht => by
        rw [Tryz.params14] at ht
        have hm : t ∈ [22] := by simpa using Array.mem_of_getElem? ht
        have hall : ([22].all fun u => !Tryz.prog.wantsStandIn u) = true := by kernel_rfl
        exact (show Tryz.prog.wantsStandIn t = false by simpa using List.all_eq_true.1 hall t hm)⟩)
    p4
#print axioms proved
end Go.Proofs.YtihobnheficpjaaGreatDoor.fnLoseWorkerAllDone
