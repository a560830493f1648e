/- The law FnExactTurnSteal: whatever plan, crew and numbers it is given, it returns true, and what was there reads as it did; the library's tables are as the program's text lays them (the card ties them). Conditions: the row's own. -/
import Derived.Test.YtihobnheficpjaaGreatDoorPT6Frame
import Derived.Test.YtihobnheficpjaaGreatDoorM5ExSteal
import Derived.Test.YtihobnheficpjaaGreatDoorCards
import Derived.Test.YtihobnheficpjaaGreatDoorTie
import Derived.SevenTiedAt
namespace Go.Proofs.YtihobnheficpjaaGreatDoor.fnExactTurnStealDone
open Go.ChangeShapes Go.WideShapes Go.ChangeAt Go.RowKit

theorem sent {W : World} (h : laidMetH Tryz.prog Rows.fnExactTurnStealRow.laid W) : ∃ a, ErrTurn W a := by
  rw [MakeChecks.laidMetH_plain _ _ _ (by kernel_rfl)] at h
  exact errTurn_of h
set_option maxRecDepth 100000 in
theorem lifted (os : Os) (started : os.Started) (H : Type) (enc : TypeId × Value → H) :
    ReturnsInHanded {} Tryz.checked os 9 .any (fun w args => (Rows.fnExactTurnStealSpec.pre enc Tryz.prog Tryz.f9 [] false w args ∧ laidMetH Tryz.prog Rows.fnExactTurnStealRow.laid w) ∧ sizedMet enc Tryz.prog Tryz.f9 (OpenSpec.ofChange Rows.fnExactTurnStealSpec) false w args)
      (Rows.fnExactTurnStealSpec.post enc Tryz.prog Tryz.f9 false true false false) := by
  refine returnsInHanded_of_change_and (C := Tryz.checked) (X := fun w _ => laidMetH Tryz.prog Rows.fnExactTurnStealRow.laid w) (fun _ _ _ hh h => h.of_heap hh) own_ started (by kernel_rfl) Tryz.func9
    (ChangeSpec.witness_shaped (enc := enc) (C := Tryz.checked) (os := os) (X := fun w _ => laidMetH Tryz.prog Rows.fnExactTurnStealRow.laid w) false (World.doorLaid Tryz.prog 400 os) #[.slice none 0 0, .agg #[.slice none 0 0, .slice none 0 0, .slice none 0 0, .slice none 0 0], .int .i64 0, .int .i64 0] 8 rfl (doorShaped os _) (by kernel_rfl) (by kernel_rfl) (by kernel_rfl) (doorMet os _)) ?_
  intro W base args ds gs before hval0 hW _ _ hL _
  have hval : ∀ (j : Nat) t v, Tryz.f9.params[j]? = some t → args[j]? = some v → Value.okWide Tryz.prog W .any base t v := hval0
  have hW' := hW
  obtain ⟨p, q, hA0, hV, rfl, hfz, hnd⟩ := hW
  have hA : DataW.TrodAll enc Tryz.prog W 0 (fun _ => true) true Tryz.f9.params.toList args.toList ds p := hA0
  rw [Tryz.params9] at hA hval
  obtain ⟨v0, vs0, d0, ds0, p0, q0, hargs0, rfl, rfl, h0, r0⟩ := trodAll_cons hA
  obtain ⟨v1, vs1, d1, ds1, p1, q1, hargs1, rfl, rfl, h1, r1⟩ := trodAll_cons r0
  obtain ⟨v2, vs2, d2, ds2, p2, q2, hargs2, rfl, rfl, h2, r2⟩ := trodAll_cons r1
  obtain ⟨v3, vs3, d3, ds3, p3, q3, hargs3, rfl, rfl, h3, r3⟩ := trodAll_cons r2
  obtain ⟨rfl, rfl, rfl⟩ := trodAll_nil r3
  obtain rfl : args = #[v0, v1, v2, v3] := by cases args; simp_all
  obtain ⟨dg, rfl⟩ : ∃ dg, gs = [dg] := by
    obtain ⟨_, _, _, _, d, _, e, _⟩ := trodVars_one hV
    exact ⟨d, e⟩
  obtain ⟨a0, len0, cap0, rfl⟩ := okWide_slice Tryz.underlying43 (hval 0 43 v0 rfl rfl)
  obtain ⟨n2, rfl⟩ := okWide_int Tryz.underlying3 (hval 2 3 v2 rfl rfl)
  obtain ⟨n3, rfl⟩ := okWide_int Tryz.underlying3 (hval 3 3 v3 rfl rfl)
  have k0 := h0
  have lt0 : ∀ x ∈ p0, x.block < W.heap.size := by obtain ⟨m, hm⟩ := k0; exact DataW.trod_lt m _ _ _ hm
  have k1 := h1
  have lt1 : ∀ x ∈ p1, x.block < W.heap.size := by obtain ⟨m, hm⟩ := k1; exact DataW.trod_lt m _ _ _ hm
  have k2 := h2
  have lt2 : ∀ x ∈ p2, x.block < W.heap.size := by obtain ⟨m, hm⟩ := k2; exact DataW.trod_lt m _ _ _ hm
  have k3 := h3
  have lt3 : ∀ x ∈ p3, x.block < W.heap.size := by obtain ⟨m, hm⟩ := k3; exact DataW.trod_lt m _ _ _ hm
  obtain ⟨plan, w0⟩ := nodes_of_arg h0
  obtain ⟨c, w1⟩ := crew_of_arg (hval 1 44 v1 rfl rfl) h1
  obtain ⟨a, hP⟩ := sent hL
  clear hA0 hval0
  refine (fnExactTurnSteal_any W (.slice a0 len0 cap0) v1 plan c n2 n3 a hP w0 w1).mono fun e W' ⟨he, hgr⟩ => ?_
  have bel : Below W.heap.size W W' := gb_below hgr
  obtain ⟨pv, hpv⟩ := et_kept hV bel
  subst he
  exact ⟨_, rfl, _, _, _, [], _, pv, hW', trodAll_mk1 (shut_bool Tryz.underlying4 _), (trodAll_cons_mk (Below.trod laidOut_ (by kernel_rfl) (of_decide_eq_true (by kernel_rfl)) k0 bel lt0) (trodAll_cons_mk (Below.trod laidOut_ (by kernel_rfl) (of_decide_eq_true (by kernel_rfl)) k1 bel lt1) (trodAll_cons_mk (Below.trod laidOut_ (by kernel_rfl) (of_decide_eq_true (by kernel_rfl)) k2 bel lt2) (trodAll_cons_mk (Below.trod laidOut_ (by kernel_rfl) (of_decide_eq_true (by kernel_rfl)) k3 bel lt3) trodAll_mk0)))), hpv, bel.frame _, fun h => by cases h⟩
theorem c0 : Rows.fnExactTurnStealRow.wf (OpenSpec.ofChange Rows.fnExactTurnStealSpec) = true := by kernel_rfl
theorem c3 : (Tryz.f9.params.all (Tryz.prog.readableRec ·) && namedTie Tryz.prog Rows.fnExactTurnStealRow.named Rows.fnExactTurnStealSpec.vars && (Rows.fnExactTurnStealRow.stops == []) && (Tryz.prog.stops == []) && (Rows.fnExactTurnStealRow.knobs == []) && (Tryz.prog.stopKnobs == [])) = true := by kernel_rfl
theorem c4 : (Rows.fnExactTurnStealRow.inPlace == Tryz.prog.inPlace 9) = true := by kernel_rfl
theorem c5 : (Rows.fnExactTurnStealRow.unfollowed == Tryz.prog.unfollowed 9) = true := by kernel_rfl
theorem c6 : (Rows.fnExactTurnStealRow.recurses == Tryz.prog.recurses 9) = true := by kernel_rfl
theorem c7 : (Rows.fnExactTurnStealRow.named == Tryz.prog.varsNamed 9) = true := by kernel_rfl
theorem joined : joinedFacts Tryz.prog 9 Tryz.f9 Rows.fnExactTurnStealSpec Rows.fnExactTurnStealRow = true :=
  joined_gen c0 laidOut_ mapsRowed_ c3 c4 c5 c6 c7 (by kernel_rfl) (by kernel_rfl) (by kernel_rfl) mayEnter_ (by rw [liftsFinal_]; rfl) (by rw [make_]; rfl) (by kernel_rfl) (by kernel_rfl)
theorem inst : Tryz.f9.isInstance Tryz.prog "" [] := inst_gen rfl rfl (by kernel_rfl)
theorem notMain : Check.packageOf Tryz.f9.name ≠ "main" := by decide +kernel
theorem wrapped : Tryz.f9.isWrapper Tryz.prog false "" := wrap_gen Tryz.prog Tryz.f9 notMain
theorem row_holds : Rows.FnExactTurnStealSaid :=
  OpenClaim.holds_of_wide 9 Tryz.f9 rfl rfl rfl rfl rfl rfl rfl ⟨rfl, rfl, rfl, rfl, rfl⟩ rfl rfl rfl rfl rfl (by kernel_rfl) Tryz.func9 joined
    inst wrapped
    (fun os started H enc _ => lifted os started H enc)
theorem p1 : Rows.fnExactTurnStealRow.wfByText (OpenSpec.ofChange Rows.fnExactTurnStealSpec) = true := by kernel_rfl
theorem p4 : false = Rows.fnExactTurnStealRow.goesBy Tryz.pinned.checked.prog := by kernel_rfl
theorem proved : Rows.FnExactTurnStealCardSaid :=
  Claim7.holds_tied_plain_at .later [] [.sentinel] true Rows.fnExactTurnStealCard.stood.harness true
    row_holds (fun _ h => by cases h) p1 (fun _ h => by cases h) fnExactTurnSteal_row_tie rfl ⟨rfl, rfl⟩ mainIs_ rfl
    (fun f fn hf hfn => by
      obtain rfl : f = 9 := Option.some.inj ((show Tryz.prog.funcNamed "loop.example/workplans/laws.FnExactTurnSteal" = some 9 by kernel_rfl).symm.trans hf) |>.symm
      obtain rfl : fn = Tryz.f9 := (Option.some.inj (Tryz.func9.symm.trans hfn)).symm
      exact ⟨looks_, fun j t ht => by
        rw [Tryz.params9] at ht
        have hm : t ∈ [43, 44, 3, 3] := by simpa using Array.mem_of_getElem? ht
        have hall : ([43, 44, 3, 3].all fun u => !Tryz.prog.wantsStandIn u) = true := by kernel_rfl
        exact (show Tryz.prog.wantsStandIn t = false by simpa using List.all_eq_true.1 hall t hm)⟩)
    p4
#print axioms proved
end Go.Proofs.YtihobnheficpjaaGreatDoor.fnExactTurnStealDone
