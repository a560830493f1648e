/- The law FnLoseWorkerLeft: whatever bytes it is given, it returns true, and what was there reads as it did. Conditions: none. -/
import Derived.Test.YtihobnheficpjaaGreatM32
namespace Go.Proofs.YtihobnheficpjaaGreat.fnLoseWorkerLeftDone
open Go.ChangeShapes Go.WideShapes Go.ChangeAt Go.RowKit
open Go.ChangeMaps (open_string shut_string)

set_option maxRecDepth 100000 in
theorem lifted (os : Os) (started : os.Started) (H : Type) (enc : TypeId × Value → H) :
    ReturnsInHanded {} Tryz.checked os 3 .any (Rows.fnLoseWorkerLeftSpec.pre6 enc Tryz.prog Tryz.f3 Rows.fnLoseWorkerLeftRow.domain false) (Rows.fnLoseWorkerLeftSpec.post enc Tryz.prog Tryz.f3 false true false false) := by
  refine returnsInHanded_of_change (C := Tryz.checked) own_ started (by kernel_rfl) Tryz.func3
    (ChangeSpec.witness6 (enc := enc) (C := Tryz.checked) false ⟨#[], #[.slice none 0 0], []⟩ 8 (by kernel_rfl) (by kernel_rfl) (by kernel_rfl) (by kernel_rfl)) ?_
  intro W base args ds gs before hval0 hW hcnd _
  have hval : ∀ (j : Nat) t v, Tryz.f3.params[j]? = some t → args[j]? = some v → Value.okWide Tryz.prog W .any base t v := hval0
  have hW' := hW
  obtain ⟨p, q, hA0, hV, rfl, hfz, hnd⟩ := hW
  have hA : DataW.TrodAll enc Tryz.prog W 0 (fun _ => true) true Tryz.f3.params.toList args.toList ds p := hA0
  rw [Tryz.params3] at hA hval
  obtain ⟨v0, vs0, d0, ds0, p0, q0, hargs, rfl, rfl, h0, r0⟩ := trodAll_cons hA
  obtain ⟨rfl, rfl, rfl⟩ := trodAll_nil r0
  obtain rfl : args = #[v0] := by cases args; simp_all
  obtain ⟨rfl, rfl⟩ := trodVars_none hV
  obtain ⟨a0, len0, cap0, rfl⟩ := okWide_slice Tryz.underlying22 (hval 0 22 v0 rfl rfl)
  have k0 := h0
  have lt0 : ∀ x ∈ p0, x.block < W.heap.size := by obtain ⟨m, hm⟩ := k0; exact DataW.trod_lt m _ _ _ hm
  obtain ⟨w0, w1⟩ := bytes_of_arg h0
  clear hA0 hval0
  refine (fnLoseWorkerLeft_any W (.slice a0 len0 cap0) len0 w0 w1).mono fun e W' ⟨he, hgr⟩ => ?_
  have bel : Below W.heap.size W W' := gb_below hgr
  subst he
  exact ⟨_, rfl, _, _, _, [], _, [], hW', trodAll_mk1 (shut_bool Tryz.underlying4 _), (trodAll_cons_mk (Below.trod laidOut_ (by kernel_rfl) (of_decide_eq_true (by kernel_rfl)) k0 bel lt0) trodAll_mk0), rfl, bel.frame _, fun h => by cases h⟩

theorem c0 : Rows.fnLoseWorkerLeftRow.wf (OpenSpec.ofChange Rows.fnLoseWorkerLeftSpec) = true := by kernel_rfl
theorem c2 : mapsRowed Tryz.prog = true := by kernel_rfl
theorem c3 : (Tryz.f3.params.all (Tryz.prog.readableRec ·) && namedTie Tryz.prog Rows.fnLoseWorkerLeftRow.named Rows.fnLoseWorkerLeftSpec.vars && (Rows.fnLoseWorkerLeftRow.stops == []) && (Tryz.prog.stops == []) && (Rows.fnLoseWorkerLeftRow.knobs == []) && (Tryz.prog.stopKnobs == [])) = true := by kernel_rfl
theorem c4 : (Rows.fnLoseWorkerLeftRow.inPlace == Tryz.prog.inPlace 3) = true := by kernel_rfl
theorem c5 : (Rows.fnLoseWorkerLeftRow.unfollowed == Tryz.prog.unfollowed 3) = true := by kernel_rfl
theorem c6 : (Rows.fnLoseWorkerLeftRow.recurses == Tryz.prog.recurses 3) = true := by kernel_rfl
theorem c7 : (Rows.fnLoseWorkerLeftRow.named == Tryz.prog.varsNamed 3) = true := by kernel_rfl
theorem joined : joinedFacts Tryz.prog 3 Tryz.f3 Rows.fnLoseWorkerLeftSpec Rows.fnLoseWorkerLeftRow = true :=
  joined_gen c0 laidOut_ c2 c3 c4 c5 c6 c7 (by kernel_rfl) (by kernel_rfl) (by kernel_rfl) mayEnter_ (by rw [liftsFinal_]; rfl) (by rw [make_]; rfl) (by kernel_rfl) (by kernel_rfl)
theorem inst : Tryz.f3.isInstance Tryz.prog "" [] := inst_gen rfl rfl (by kernel_rfl)
theorem notMain : Check.packageOf Tryz.f3.name ≠ "main" := by decide +kernel
theorem wrapped : Tryz.f3.isWrapper Tryz.prog false "" := wrap_gen Tryz.prog Tryz.f3 notMain
theorem proved : Rows.FnLoseWorkerLeftSaid :=
  OpenClaim.holds_of_wide 3 Tryz.f3 rfl rfl rfl rfl rfl rfl rfl ⟨rfl, rfl, rfl, rfl, rfl⟩ rfl rfl rfl rfl rfl (by kernel_rfl) Tryz.func3 joined
    inst wrapped
    (fun os started H enc _ => lifted os started H enc)
#print axioms proved
end Go.Proofs.YtihobnheficpjaaGreat.fnLoseWorkerLeftDone
