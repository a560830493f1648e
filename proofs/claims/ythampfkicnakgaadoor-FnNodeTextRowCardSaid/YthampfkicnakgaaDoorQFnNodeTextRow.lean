/- The law FnNodeTextRow: whatever bytes it is given, it returns true, and what was there reads as it did; the library's tables are as the program's text lays them (the card ties them). Conditions: the row's own. -/
import Derived.Test.YthampfkicnakgaaDoorPT2Frame
import Derived.Test.YthampfkicnakgaaDoorL24NodeTextRow
import Derived.Test.YthampfkicnakgaaDoorCards
import Derived.Test.YthampfkicnakgaaDoorTie
import Derived.SevenTiedAt
namespace Go.Proofs.YthampfkicnakgaaDoor.fnNodeTextRowDone
open Go.ChangeShapes Go.WideShapes Go.ChangeAt Go.RowKit

/-- The world that the door leaves meets the condition. -/
theorem door_met (os : Os) (args : Array Value) : laidMetH Tryd.prog Rows.fnNodeTextRowRow.laid ((World.doorLaid Tryd.prog 400 os).forCall (fun _ _ => 0) ⟨#[], args, []⟩).memory :=
  laidMetH_of_parts3 (fuel := 8) (laidMet_of_run' 8 (by kernel_rfl) (by kernel_rfl)) (by kernel_rfl) (by kernel_rfl)
theorem ptab {W : World} (h : laidMetH Tryd.prog Rows.fnNodeTextRowRow.laid W) : PTab W := by
  rw [MakeChecks.laidMetH_plain _ _ _ (by kernel_rfl)] at h
  exact ptab_of (laidMet.tail (laidMet.tail h))
theorem kwords {W : World} (h : laidMetH Tryd.prog Rows.fnNodeTextRowRow.laid W) : KWords W := by
  rw [MakeChecks.laidMetH_plain _ _ _ (by kernel_rfl)] at h
  exact kwords_of (laidMet.tail (laidMet.tail (laidMet.tail h)))
set_option maxRecDepth 100000 in
theorem lifted (os : Os) (started : os.Started) (H : Type) (enc : TypeId × Value → H) :
    ReturnsInHanded {} Tryd.checked os 6 .any (fun w args => (Rows.fnNodeTextRowSpec.pre enc Tryd.prog Tryd.f6 [] false w args ∧ laidMetH Tryd.prog Rows.fnNodeTextRowRow.laid w) ∧ sizedMet enc Tryd.prog Tryd.f6 (OpenSpec.ofChange Rows.fnNodeTextRowSpec) false w args)
      (Rows.fnNodeTextRowSpec.post enc Tryd.prog Tryd.f6 false true false false) := by
  refine returnsInHanded_of_change_and (C := Tryd.checked) (X := fun w _ => laidMetH Tryd.prog Rows.fnNodeTextRowRow.laid w) (fun _ _ _ hh h => h.of_heap hh) own_ started (by kernel_rfl) Tryd.func6
    (ChangeSpec.witness_shaped (enc := enc) (C := Tryd.checked) (os := os) (X := fun w _ => laidMetH Tryd.prog Rows.fnNodeTextRowRow.laid w) false (World.doorLaid Tryd.prog 400 os) #[.slice none 0 0] 8 rfl (World.shaped_of_RefB (by kernel_rfl) (by kernel_rfl)) (by kernel_rfl) (by kernel_rfl) (by kernel_rfl) (door_met os _)) ?_
  intro W base args ds gs before hval0 hW _ _ hL _
  have hval : ∀ (j : Nat) t v, Tryd.f6.params[j]? = some t → args[j]? = some v → Value.okWide Tryd.prog W .any base t v := hval0
  have hW' := hW
  obtain ⟨p, q, hA0, hV, rfl, hfz, hnd⟩ := hW
  have hA : DataW.TrodAll enc Tryd.prog W 0 (fun _ => true) true Tryd.f6.params.toList args.toList ds p := hA0
  rw [Tryd.params6] at hA hval
  obtain ⟨v0, vs0, d0, ds0, p0, q0, hargs0, rfl, rfl, h0, r0⟩ := trodAll_cons hA
  obtain ⟨rfl, rfl, rfl⟩ := trodAll_nil r0
  obtain rfl : args = #[v0] := by cases args; simp_all
  obtain ⟨dg, rfl⟩ : ∃ dg, gs = [dg] := by
    obtain ⟨_, _, _, _, d, _, e, _⟩ := trodVars_one hV
    exact ⟨d, e⟩
  obtain ⟨a0, len0, cap0, rfl⟩ := okWide_slice Tryd.underlying27 (hval 0 27 v0 rfl rfl)
  have k0 := h0
  have lt0 : ∀ x ∈ p0, x.block < W.heap.size := by obtain ⟨m, hm⟩ := k0; exact DataW.trod_lt m _ _ _ hm
  obtain ⟨w0, x0⟩ := bytes_of_arg h0
  have hP := ptab hL
  have hK := kwords hL
  clear hA0 hval0
  refine (fnNodeTextRow_any W (.slice a0 len0 cap0) len0 w0 x0 hP hK).mono fun e W' ⟨he, hgr⟩ => ?_
  have bel : Below W.heap.size W W' := gb_below hgr
  obtain ⟨pv, hpv⟩ := kw_kept hV bel
  subst he
  exact ⟨_, rfl, _, _, _, [], _, pv, hW', trodAll_mk1 (shut_bool Tryd.underlying4 _), (trodAll_cons_mk (Below.trod laidOut_ (by kernel_rfl) (of_decide_eq_true (by kernel_rfl)) k0 bel lt0) trodAll_mk0), hpv, bel.frame _, fun h => by cases h⟩
theorem joined : joinedFacts Tryd.prog 6 Tryd.f6 Rows.fnNodeTextRowSpec Rows.fnNodeTextRowRow = true := by kernel_rfl
theorem inst : Tryd.f6.isInstance Tryd.prog "" [] := inst_gen rfl rfl (by kernel_rfl)
theorem notMain : Check.packageOf Tryd.f6.name ≠ "main" := by decide +kernel
theorem wrapped : Tryd.f6.isWrapper Tryd.prog false "" := wrap_gen Tryd.prog Tryd.f6 notMain
theorem row_holds : Rows.FnNodeTextRowSaid :=
  OpenClaim.holds_of_wide 6 Tryd.f6 rfl rfl rfl rfl rfl rfl rfl ⟨rfl, rfl, rfl, rfl, rfl⟩ rfl rfl rfl rfl rfl (by kernel_rfl) Tryd.func6 joined
    inst wrapped
    (fun os started H enc _ => lifted os started H enc)
theorem proved : Rows.FnNodeTextRowCardSaid :=
  Claim7.holds_tied_plain_at .later [] [.data, .data, .data, .data] true Rows.fnNodeTextRowCard.stood.harness true
    row_holds (fun _ h => by cases h) (by kernel_rfl) (fun _ h => by cases h) fnNodeTextRow_row_tie rfl ⟨rfl, rfl⟩ (by kernel_rfl) rfl
    (fun f fn hf hfn => by
      obtain rfl : f = 6 := Option.some.inj ((show Tryd.prog.funcNamed "loop.example/workplans/laws.FnNodeTextRow" = some 6 by kernel_rfl).symm.trans hf) |>.symm
      obtain rfl : fn = Tryd.f6 := (Option.some.inj (Tryd.func6.symm.trans hfn)).symm
      exact ⟨by kernel_rfl, fun j t ht => by
        rw [Tryd.params6] at ht
        have hm : t ∈ [27] := by simpa using Array.mem_of_getElem? ht
        have hall : ([27].all fun u => !Tryd.prog.wantsStandIn u) = true := by kernel_rfl
        exact (show Tryd.prog.wantsStandIn t = false by simpa using List.all_eq_true.1 hall t hm)⟩)
    (by kernel_rfl)
#print axioms proved
end Go.Proofs.YthampfkicnakgaaDoor.fnNodeTextRowDone
