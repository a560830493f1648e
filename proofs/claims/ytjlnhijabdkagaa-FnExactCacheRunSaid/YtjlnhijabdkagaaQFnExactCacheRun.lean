/- The law FnExactCacheRun: whatever entries and number and rows it is given, it returns true, and what was there reads as it did. Conditions: none. -/
import Derived.Test.YtjlnhijabdkagaaP2Ents
import Derived.Test.YtjlnhijabdkagaaL20ExCacheRun
namespace Go.Proofs.Ytjlnhijabdkagaa.fnExactCacheRunDone
open Go.ChangeShapes Go.WideShapes Go.ChangeAt Go.RowKit
open Go.ChangeMaps (open_string shut_string)

set_option maxRecDepth 100000 in
theorem lifted (os : Os) (started : os.Started) (H : Type) (enc : TypeId × Value → H) :
    ReturnsInHanded {} Try.checked os 22 .any (Rows.fnExactCacheRunSpec.pre6 enc Try.prog Try.f22 Rows.fnExactCacheRunRow.domain false) (Rows.fnExactCacheRunSpec.post enc Try.prog Try.f22 false true false false) := by
  refine returnsInHanded_of_change (C := Try.checked) own_ started (by kernel_rfl) Try.func22
    (ChangeSpec.witness6 (enc := enc) (C := Try.checked) false ⟨#[], #[.slice none 0 0, .int .i64 0, .slice none 0 0], []⟩ 8 (by kernel_rfl) (by kernel_rfl) (by kernel_rfl) (by kernel_rfl)) ?_
  intro W base args ds gs before hval0 hW hcnd _
  have hval : ∀ (j : Nat) t v, Try.f22.params[j]? = some t → args[j]? = some v → Value.okWide Try.prog W .any base t v := hval0
  have hW' := hW
  obtain ⟨p, q, hA0, hV, rfl, hfz, hnd⟩ := hW
  have hA : DataW.TrodAll enc Try.prog W 0 (fun _ => true) true Try.f22.params.toList args.toList ds p := hA0
  rw [Try.params22] at hA hval
  obtain ⟨v0, vs0, d0, ds0, p0, q0, hargs0, rfl, rfl, h0, r0⟩ := trodAll_cons hA
  obtain ⟨v1, vs1, d1, ds1, p1, q1, hargs1, rfl, rfl, h1, r1⟩ := trodAll_cons r0
  obtain ⟨v2, vs2, d2, ds2, p2, q2, hargs2, rfl, rfl, h2, r2⟩ := trodAll_cons r1
  obtain ⟨rfl, rfl, rfl⟩ := trodAll_nil r2
  obtain rfl : args = #[v0, v1, v2] := by cases args; simp_all
  obtain ⟨rfl, rfl⟩ := trodVars_none hV
  obtain ⟨a0, len0, cap0, rfl⟩ := okWide_slice Try.underlying52 (hval 0 52 v0 rfl rfl)
  obtain ⟨n1, rfl⟩ := okWide_int Try.underlying3 (hval 1 3 v1 rfl rfl)
  obtain ⟨a2, len2, cap2, rfl⟩ := okWide_slice Try.underlying45 (hval 2 45 v2 rfl rfl)
  have k0 := h0
  have lt0 : ∀ x ∈ p0, x.block < W.heap.size := by obtain ⟨m, hm⟩ := k0; exact DataW.trod_lt m _ _ _ hm
  have k1 := h1
  have lt1 : ∀ x ∈ p1, x.block < W.heap.size := by obtain ⟨m, hm⟩ := k1; exact DataW.trod_lt m _ _ _ hm
  have k2 := h2
  have lt2 : ∀ x ∈ p2, x.block < W.heap.size := by obtain ⟨m, hm⟩ := k2; exact DataW.trod_lt m _ _ _ hm
  obtain ⟨c0, w0⟩ := ents_of_arg h0
  obtain ⟨c2, w2⟩ := lists_of_arg h2
  clear hA0 hval0
  refine (fnExactCacheRun_any W (.slice a0 len0 cap0) (.slice a2 len2 cap2) c0 n1 c2 w0 w2).mono fun e W' ⟨he, hgr⟩ => ?_
  have bel : Below W.heap.size W W' := gb_below hgr
  subst he
  exact ⟨_, rfl, _, _, _, [], _, [], hW', trodAll_mk1 (shut_bool Try.underlying4 _), (trodAll_cons_mk (Below.trod laidOut_ (by kernel_rfl) (of_decide_eq_true (by kernel_rfl)) k0 bel lt0) (trodAll_cons_mk (Below.trod laidOut_ (by kernel_rfl) (of_decide_eq_true (by kernel_rfl)) k1 bel lt1) (trodAll_cons_mk (Below.trod laidOut_ (by kernel_rfl) (of_decide_eq_true (by kernel_rfl)) k2 bel lt2) trodAll_mk0))), rfl, bel.frame _, fun h => by cases h⟩

theorem c0 : Rows.fnExactCacheRunRow.wf (OpenSpec.ofChange Rows.fnExactCacheRunSpec) = true := by kernel_rfl
theorem c2 : mapsRowed Try.prog = true := by kernel_rfl
theorem c3 : (Try.f22.params.all (Try.prog.readableRec ·) && namedTie Try.prog Rows.fnExactCacheRunRow.named Rows.fnExactCacheRunSpec.vars && (Rows.fnExactCacheRunRow.stops == []) && (Try.prog.stops == []) && (Rows.fnExactCacheRunRow.knobs == []) && (Try.prog.stopKnobs == [])) = true := by kernel_rfl
theorem c4 : (Rows.fnExactCacheRunRow.inPlace == Try.prog.inPlace 22) = true := by kernel_rfl
theorem c5 : (Rows.fnExactCacheRunRow.unfollowed == Try.prog.unfollowed 22) = true := by kernel_rfl
theorem c6 : (Rows.fnExactCacheRunRow.recurses == Try.prog.recurses 22) = true := by kernel_rfl
theorem c7 : (Rows.fnExactCacheRunRow.named == Try.prog.varsNamed 22) = true := by kernel_rfl
theorem joined : joinedFacts Try.prog 22 Try.f22 Rows.fnExactCacheRunSpec Rows.fnExactCacheRunRow = true :=
  joined_gen c0 laidOut_ c2 c3 c4 c5 c6 c7 (by kernel_rfl) (by kernel_rfl) (by kernel_rfl) mayEnter_ (by rw [liftsFinal_]; rfl) (by rw [make_]; rfl) (by kernel_rfl) (by kernel_rfl)
theorem inst : Try.f22.isInstance Try.prog "" [] := inst_gen rfl rfl (by kernel_rfl)
theorem notMain : Check.packageOf Try.f22.name ≠ "main" := by decide +kernel
theorem wrapped : Try.f22.isWrapper Try.prog false "" := wrap_gen Try.prog Try.f22 notMain
theorem proved : Rows.FnExactCacheRunSaid :=
  OpenClaim.holds_of_wide 22 Try.f22 rfl rfl rfl rfl rfl rfl rfl ⟨rfl, rfl, rfl, rfl, rfl⟩ rfl rfl rfl rfl rfl (by kernel_rfl) Try.func22 joined
    inst wrapped
    (fun os started H enc _ => lifted os started H enc)
#print axioms proved
end Go.Proofs.Ytjlnhijabdkagaa.fnExactCacheRunDone
