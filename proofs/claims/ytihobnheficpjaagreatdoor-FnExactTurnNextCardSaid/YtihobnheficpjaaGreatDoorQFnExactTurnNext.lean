/- The law FnExactTurnNext: whatever plan, crew and numbers it is given, it returns true, and what was there reads as it did; the library's tables are as the program's text lays them (the card ties them). Conditions: the row's own. -/
import Derived.Test.YtihobnheficpjaaGreatDoorPT6Frame
import Derived.Test.YtihobnheficpjaaGreatDoorM6ExNext
import Derived.Test.YtihobnheficpjaaGreatDoorCards
import Derived.Test.YtihobnheficpjaaGreatDoorTie
import Derived.SevenTiedAt
namespace Go.Proofs.YtihobnheficpjaaGreatDoor.fnExactTurnNextDone
open Go.ChangeShapes Go.WideShapes Go.ChangeAt Go.RowKit

theorem sent {W : World} (h : laidMetH Tryz.prog Rows.fnExactTurnNextRow.laid W) : ∃ a, ErrTurn W a := by
  rw [MakeChecks.laidMetH_plain _ _ _ (by kernel_rfl)] at h
  exact errTurn_of h
set_option maxRecDepth 100000 in
theorem lifted (os : Os) (started : os.Started) (H : Type) (enc : TypeId × Value → H) :
    ReturnsInHanded {} Tryz.checked os 15 .any (fun w args => (Rows.fnExactTurnNextSpec.pre enc Tryz.prog Tryz.f15 [] false w args ∧ laidMetH Tryz.prog Rows.fnExactTurnNextRow.laid w) ∧ sizedMet enc Tryz.prog Tryz.f15 (OpenSpec.ofChange Rows.fnExactTurnNextSpec) false w args)
      (Rows.fnExactTurnNextSpec.post enc Tryz.prog Tryz.f15 false true false false) := by
  refine returnsInHanded_of_change_and (C := Tryz.checked) (X := fun w _ => laidMetH Tryz.prog Rows.fnExactTurnNextRow.laid w) (fun _ _ _ hh h => h.of_heap hh) own_ started (by kernel_rfl) Tryz.func15
    (ChangeSpec.witness_shaped (enc := enc) (C := Tryz.checked) (os := os) (X := fun w _ => laidMetH Tryz.prog Rows.fnExactTurnNextRow.laid w) false (World.doorLaid Tryz.prog 400 os) #[.slice none 0 0, .agg #[.slice none 0 0, .slice none 0 0, .slice none 0 0, .slice none 0 0], .int .i64 0] 8 rfl (doorShaped os _) (by kernel_rfl) (by kernel_rfl) (by kernel_rfl) (doorMet os _)) ?_
  intro W base args ds gs before hval0 hW _ _ hL _
  have hval : ∀ (j : Nat) t v, Tryz.f15.params[j]? = some t → args[j]? = some v → Value.okWide Tryz.prog W .any base t v := hval0
  have hW' := hW
  obtain ⟨p, q, hA0, hV, rfl, hfz, hnd⟩ := hW
  have hA : DataW.TrodAll enc Tryz.prog W 0 (fun _ => true) true Tryz.f15.params.toList args.toList ds p := hA0
  rw [Tryz.params15] at hA hval
  obtain ⟨v0, vs0, d0, ds0, p0, q0, hargs0, rfl, rfl, h0, r0⟩ := trodAll_cons hA
  obtain ⟨v1, vs1, d1, ds1, p1, q1, hargs1, rfl, rfl, h1, r1⟩ := trodAll_cons r0
  obtain ⟨v2, vs2, d2, ds2, p2, q2, hargs2, rfl, rfl, h2, r2⟩ := trodAll_cons r1
  obtain ⟨rfl, rfl, rfl⟩ := trodAll_nil r2
  obtain rfl : args = #[v0, v1, v2] := by cases args; simp_all
  obtain ⟨dg, rfl⟩ : ∃ dg, gs = [dg] := by
    obtain ⟨_, _, _, _, d, _, e, _⟩ := trodVars_one hV
    exact ⟨d, e⟩
  obtain ⟨a0, len0, cap0, rfl⟩ := okWide_slice Tryz.underlying43 (hval 0 43 v0 rfl rfl)
  obtain ⟨n2, rfl⟩ := okWide_int Tryz.underlying3 (hval 2 3 v2 rfl rfl)
  have k0 := h0
  have lt0 : ∀ x ∈ p0, x.block < W.heap.size := by obtain ⟨m, hm⟩ := k0; exact DataW.trod_lt m _ _ _ hm
  have k1 := h1
  have lt1 : ∀ x ∈ p1, x.block < W.heap.size := by obtain ⟨m, hm⟩ := k1; exact DataW.trod_lt m _ _ _ hm
  have k2 := h2
  have lt2 : ∀ x ∈ p2, x.block < W.heap.size := by obtain ⟨m, hm⟩ := k2; exact DataW.trod_lt m _ _ _ hm
  obtain ⟨plan, w0⟩ := nodes_of_arg h0
  obtain ⟨c, w1⟩ := crew_of_arg (hval 1 44 v1 rfl rfl) h1
  obtain ⟨a, hP⟩ := sent hL
  clear hA0 hval0
  refine (fnExactTurnNext_any W (.slice a0 len0 cap0) v1 plan c n2 a hP w0 w1).mono fun e W' ⟨he, hgr⟩ => ?_
  have bel : Below W.heap.size W W' := gb_below hgr
  obtain ⟨pv, hpv⟩ := et_kept hV bel
  subst he
  exact ⟨_, rfl, _, _, _, [], _, pv, hW', trodAll_mk1 (shut_bool Tryz.underlying4 _), (trodAll_cons_mk (Below.trod laidOut_ (by kernel_rfl) (of_decide_eq_true (by kernel_rfl)) k0 bel lt0) (trodAll_cons_mk (Below.trod laidOut_ (by kernel_rfl) (of_decide_eq_true (by kernel_rfl)) k1 bel lt1) (trodAll_cons_mk (Below.trod laidOut_ (by kernel_rfl) (of_decide_eq_true (by kernel_rfl)) k2 bel lt2) trodAll_mk0))), hpv, bel.frame _, fun h => by cases h⟩
theorem c0 : Rows.fnExactTurnNextRow.wf (OpenSpec.ofChange Rows.fnExactTurnNextSpec) = true := by kernel_rfl
theorem c3 : (Tryz.f15.params.all (Tryz.prog.readableRec ·) && namedTie Tryz.prog Rows.fnExactTurnNextRow.named Rows.fnExactTurnNextSpec.vars && (Rows.fnExactTurnNextRow.stops == []) && (Tryz.prog.stops == []) && (Rows.fnExactTurnNextRow.knobs == []) && (Tryz.prog.stopKnobs == [])) = true := by kernel_rfl
theorem c4 : (Rows.fnExactTurnNextRow.inPlace == Tryz.prog.inPlace 15) = true := by kernel_rfl
theorem c5 : (Rows.fnExactTurnNextRow.unfollowed == Tryz.prog.unfollowed 15) = true := by kernel_rfl
theorem c6 : (Rows.fnExactTurnNextRow.recurses == Tryz.prog.recurses 15) = true := by kernel_rfl
theorem c7 : (Rows.fnExactTurnNextRow.named == Tryz.prog.varsNamed 15) = true := by kernel_rfl
theorem joined : joinedFacts Tryz.prog 15 Tryz.f15 Rows.fnExactTurnNextSpec Rows.fnExactTurnNextRow = true :=
  joined_gen c0 laidOut_ mapsRowed_ c3 c4 c5 c6 c7 (by kernel_rfl) (by kernel_rfl) (by kernel_rfl) mayEnter_ (by rw [liftsFinal_]; rfl) (by rw [make_]; rfl) (by kernel_rfl) (by kernel_rfl)
theorem inst : Tryz.f15.isInstance Tryz.prog "" [] := inst_gen rfl rfl (by kernel_rfl)
theorem notMain : Check.packageOf Tryz.f15.name ≠ "main" := by decide +kernel
theorem wrapped : Tryz.f15.isWrapper Tryz.prog false "" := wrap_gen Tryz.prog Tryz.f15 notMain
theorem row_holds : Rows.FnExactTurnNextSaid :=
  OpenClaim.holds_of_wide 15 Tryz.f15 rfl rfl rfl rfl rfl rfl rfl ⟨rfl, rfl, rfl, rfl, rfl⟩ rfl rfl rfl rfl rfl (by kernel_rfl) Tryz.func15 joined
    inst wrapped
    (fun os started H enc _ => lifted os started H enc)
theorem p1 : Rows.fnExactTurnNextRow.wfByText (OpenSpec.ofChange Rows.fnExactTurnNextSpec) = true := by kernel_rfl
theorem p4 : false = Rows.fnExactTurnNextRow.goesBy Tryz.pinned.checked.prog := by kernel_rfl
theorem proved : Rows.FnExactTurnNextCardSaid :=
  Claim7.holds_tied_plain_at .later [] [.sentinel] true Rows.fnExactTurnNextCard.stood.harness true
    row_holds (fun _ h => by cases h) p1 (fun _ h => by cases h) fnExactTurnNext_row_tie rfl ⟨rfl, rfl⟩ mainIs_ rfl
    (fun f fn hf hfn => by
      obtain rfl : f = 15 := Option.some.inj ((show Tryz.prog.funcNamed "loop.example/workplans/laws.FnExactTurnNext" = some 15 by kernel_rfl).symm.trans hf) |>.symm
      obtain rfl : fn = Tryz.f15 := (Option.some.inj (Tryz.func15.symm.trans hfn)).symm
      exact ⟨looks_, fun j t ht => by
        rw [Tryz.params15] at ht
        have hm : t ∈ [43, 44, 3] := by simpa using Array.mem_of_getElem? ht
        have hall : ([43, 44, 3].all fun u => !Tryz.prog.wantsStandIn u) = true := by kernel_rfl
        exact (show Tryz.prog.wantsStandIn t = false by simpa using List.all_eq_true.1 hall t hm)⟩)
    p4
#print axioms proved
end Go.Proofs.YtihobnheficpjaaGreatDoor.fnExactTurnNextDone
