/- The law FnExactCacheValid: whatever entries it is given, it returns true, and what was there reads as it did. Conditions: none. -/
import Derived.Test.YtjlnhijabdkagaaP2Ents
import Derived.Test.YtjlnhijabdkagaaL18ExCacheValid
namespace Go.Proofs.Ytjlnhijabdkagaa.fnExactCacheValidDone
open Go.ChangeShapes Go.WideShapes Go.ChangeAt Go.RowKit
open Go.ChangeMaps (open_string shut_string)

set_option maxRecDepth 100000 in
theorem lifted (os : Os) (started : os.Started) (H : Type) (enc : TypeId × Value → H) :
    ReturnsInHanded {} Try.checked os 14 .any (Rows.fnExactCacheValidSpec.pre6 enc Try.prog Try.f14 Rows.fnExactCacheValidRow.domain false) (Rows.fnExactCacheValidSpec.post enc Try.prog Try.f14 false true false false) := by
  refine returnsInHanded_of_change (C := Try.checked) own_ started (by kernel_rfl) Try.func14
    (ChangeSpec.witness6 (enc := enc) (C := Try.checked) false ⟨#[], #[.slice none 0 0], []⟩ 8 (by kernel_rfl) (by kernel_rfl) (by kernel_rfl) (by kernel_rfl)) ?_
  intro W base args ds gs before hval0 hW hcnd _
  have hval : ∀ (j : Nat) t v, Try.f14.params[j]? = some t → args[j]? = some v → Value.okWide Try.prog W .any base t v := hval0
  have hW' := hW
  obtain ⟨p, q, hA0, hV, rfl, hfz, hnd⟩ := hW
  have hA : DataW.TrodAll enc Try.prog W 0 (fun _ => true) true Try.f14.params.toList args.toList ds p := hA0
  rw [Try.params14] at hA hval
  obtain ⟨v0, vs0, d0, ds0, p0, q0, hargs0, rfl, rfl, h0, r0⟩ := trodAll_cons hA
  obtain ⟨rfl, rfl, rfl⟩ := trodAll_nil r0
  obtain rfl : args = #[v0] := by cases args; simp_all
  obtain ⟨rfl, rfl⟩ := trodVars_none hV
  obtain ⟨a0, len0, cap0, rfl⟩ := okWide_slice Try.underlying52 (hval 0 52 v0 rfl rfl)
  have k0 := h0
  have lt0 : ∀ x ∈ p0, x.block < W.heap.size := by obtain ⟨m, hm⟩ := k0; exact DataW.trod_lt m _ _ _ hm
  obtain ⟨c0, w0⟩ := ents_of_arg h0
  clear hA0 hval0
  refine (fnExactCacheValid_any W (.slice a0 len0 cap0) c0 w0).mono fun e W' ⟨he, hgr⟩ => ?_
  have bel : Below W.heap.size W W' := gb_below hgr
  subst he
  exact ⟨_, rfl, _, _, _, [], _, [], hW', trodAll_mk1 (shut_bool Try.underlying4 _), (trodAll_cons_mk (Below.trod laidOut_ (by kernel_rfl) (of_decide_eq_true (by kernel_rfl)) k0 bel lt0) trodAll_mk0), rfl, bel.frame _, fun h => by cases h⟩

theorem c0 : Rows.fnExactCacheValidRow.wf (OpenSpec.ofChange Rows.fnExactCacheValidSpec) = true := by kernel_rfl
theorem c2 : mapsRowed Try.prog = true := by kernel_rfl
theorem c3 : (Try.f14.params.all (Try.prog.readableRec ·) && namedTie Try.prog Rows.fnExactCacheValidRow.named Rows.fnExactCacheValidSpec.vars && (Rows.fnExactCacheValidRow.stops == []) && (Try.prog.stops == []) && (Rows.fnExactCacheValidRow.knobs == []) && (Try.prog.stopKnobs == [])) = true := by kernel_rfl
theorem c4 : (Rows.fnExactCacheValidRow.inPlace == Try.prog.inPlace 14) = true := by kernel_rfl
theorem c5 : (Rows.fnExactCacheValidRow.unfollowed == Try.prog.unfollowed 14) = true := by kernel_rfl
theorem c6 : (Rows.fnExactCacheValidRow.recurses == Try.prog.recurses 14) = true := by kernel_rfl
theorem c7 : (Rows.fnExactCacheValidRow.named == Try.prog.varsNamed 14) = true := by kernel_rfl
theorem joined : joinedFacts Try.prog 14 Try.f14 Rows.fnExactCacheValidSpec Rows.fnExactCacheValidRow = true :=
  joined_gen c0 laidOut_ c2 c3 c4 c5 c6 c7 (by kernel_rfl) (by kernel_rfl) (by kernel_rfl) mayEnter_ (by rw [liftsFinal_]; rfl) (by rw [make_]; rfl) (by kernel_rfl) (by kernel_rfl)
theorem inst : Try.f14.isInstance Try.prog "" [] := inst_gen rfl rfl (by kernel_rfl)
theorem notMain : Check.packageOf Try.f14.name ≠ "main" := by decide +kernel
theorem wrapped : Try.f14.isWrapper Try.prog false "" := wrap_gen Try.prog Try.f14 notMain
theorem proved : Rows.FnExactCacheValidSaid :=
  OpenClaim.holds_of_wide 14 Try.f14 rfl rfl rfl rfl rfl rfl rfl ⟨rfl, rfl, rfl, rfl, rfl⟩ rfl rfl rfl rfl rfl (by kernel_rfl) Try.func14 joined
    inst wrapped
    (fun os started H enc _ => lifted os started H enc)
#print axioms proved
end Go.Proofs.Ytjlnhijabdkagaa.fnExactCacheValidDone
