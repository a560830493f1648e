/- A region that draws its order, whose operations only make memory: each operation is shown once, whatever stands before it; the rest follows in one order. Conditions: none. · Walks: spec.l14Copy. · Walks: spec.l14Do. -/
import Derived.Test.YtihobnheficpjaaGreatDoorM13
import Derived.Orders
import Derived.Test.YtihobnheficpjaaGreatDoorM20
import Derived.Test.YtihobnheficpjaaGreatDoorM19
import Derived.Deep.RegionHeld3
namespace Go.Proofs.YtihobnheficpjaaGreatDoor
open Go.RowKit

def gDst (ops : Array Oper) (j : Nat) : Nat := ((ops[j]?).bind (fun o => o.dst)).getD 0
/-- Operation j stands behind operation i by an edge. -/
def gBehind (ops : Array Oper) (j i : Nat) : Bool := ((ops[j]?).map fun o => o.after.any fun e => Region.binds .any e && e.on == i).getD false
/-- The first n operations are unguarded and write slots of their own, below m; each of the others stands behind all ahead of it. -/
def gCheck (ops : Array Oper) (n m : Nat) : Bool :=
  ((List.range n).all fun j => ((ops[j]?).map fun o => o.guard.isNone && o.dst.isSome).getD false && decide (gDst ops j < m) && (List.range j).all fun i => !decide (gDst ops i = gDst ops j)) &&
  ((List.range ops.size).all fun t => (decide (t < n) || (List.range t).all fun i => gBehind ops t i) && ((ops[t]?).map fun o => o.after.all fun e => decide (e.on < t)).getD false) && decide (n ≤ ops.size)
def putTo (ops : Array Oper) (vs : List Value) (a : Act) (k : Nat) : Act := (List.range k).foldl (fun a j => a.put (some (gDst ops j)) (vs.getD j undef)) a
/-- The frame stands but for the slots of the first n operations. -/
def gSame (ops : Array Oper) (n : Nat) (a0 a : Act) : Prop := a.tmps.size = a0.tmps.size ∧ a.defers = a0.defers ∧ ∀ t, (∀ j, j < n → gDst ops j ≠ t) → a.tmps[t]? = a0.tmps[t]?
theorem eval_get {a : Act} {t : Nat} {v : Value} (h : a.tmps[t]? = some v) : a.eval (.tmp t) = v := by
  unfold Act.eval
  simp only
  rw [Array.getD_eq_getD_getElem?, h]
  rfl
theorem gSame.eval {ops : Array Oper} {n : Nat} {a0 a : Act} (h : gSame ops n a0 a) {t : Nat} {v : Value} (ht : ∀ j, j < n → gDst ops j ≠ t) (hv : a0.tmps[t]? = some v) : a.eval (.tmp t) = v :=
  eval_get ((h.2.2 t ht).trans hv)
structure GrowI (ops : Array Oper) (n : Nat) (F : Nat → World → Value → Prop) (a0 : Act) (w0 : World) (listed : Array Bool) (a : Act) (w : World) : Prop where
  sz : listed.size = ops.size
  g : w0.grownBy w none
  ts : a.tmps.size = a0.tmps.size
  df : a.defers = a0.defers
  oth : ∀ t, (∀ j, j < n → listed.getD j false = true → gDst ops j ≠ t) → a.tmps[t]? = a0.tmps[t]?
  val : ∀ j, j < n → listed.getD j false = true → ∃ v, a.tmps[gDst ops j]? = some v ∧ F j w v
  rest : ∀ j, n ≤ j → j < ops.size → listed.getD j true = false
section
variable {P : Program} {ops : Array Oper} {Q : Exit → Act → World → Prop} {n : Nat} {F : Nat → World → Value → Prop} {a0 : Act} {w0 : World}
theorem gCheck_op {m : Nat} (h : gCheck ops n m = true) {j : Nat} (hj : j < n) : ∃ o, ops[j]? = some o ∧ o.guard = none ∧ o.dst = some (gDst ops j) ∧ gDst ops j < m := by
  unfold gCheck at h
  simp only [Bool.and_eq_true, List.all_eq_true, List.mem_range, decide_eq_true_eq] at h
  obtain ⟨⟨h1, h2⟩, h3⟩ := h
  have := (h1 j hj).1
  cases ho : ops[j]? with
  | none => rw [ho] at this; simp at this
  | some o =>
    rw [ho] at this
    simp only [Option.map_some, Option.getD_some, Bool.and_eq_true] at this
    obtain ⟨⟨k1, k2⟩, k3⟩ := this
    refine ⟨o, rfl, by simpa using k1, ?_, k3⟩
    unfold gDst
    rw [ho]
    cases hd : o.dst with
    | none => rw [hd] at k2; cases k2
    | some d => simp [hd]
theorem gCheck_apart {m : Nat} (h : gCheck ops n m = true) {i j : Nat} (hj : j < n) (hi : i < n) (hne : i ≠ j) : gDst ops i ≠ gDst ops j := by
  unfold gCheck at h
  simp only [Bool.and_eq_true, List.all_eq_true, List.mem_range, decide_eq_true_eq] at h
  obtain ⟨⟨h1, h2⟩, h3⟩ := h
  rcases Nat.lt_or_gt_of_ne hne with hlt | hlt
  · have := (h1 j hj).2 i hlt
    simpa using this
  · have := (h1 i hi).2 j hlt
    intro e
    simp [e] at this
theorem gCheck_tail {m : Nat} (h : gCheck ops n m = true) {t i : Nat} (ht : n ≤ t) (hts : t < ops.size) (hi : i < t) : gBehind ops t i = true := by
  unfold gCheck at h
  simp only [Bool.and_eq_true, List.all_eq_true, List.mem_range, decide_eq_true_eq, Bool.or_eq_true] at h
  rcases (h.1.2 t hts).1 with h | h
  · omega
  · exact h i hi
theorem gCheck_le {m : Nat} (h : gCheck ops n m = true) : n ≤ ops.size := by
  unfold gCheck at h
  simp only [Bool.and_eq_true, decide_eq_true_eq] at h
  exact h.2
theorem gCheck_back {m : Nat} (h : gCheck ops n m = true) {t : Nat} (hts : t < ops.size) {o : Oper} (ho : ops[t]? = some o) : ∀ e ∈ o.after, e.on < t := by
  unfold gCheck at h
  simp only [Bool.and_eq_true, List.all_eq_true, List.mem_range, decide_eq_true_eq, Bool.or_eq_true] at h
  have := (h.1.2 t hts).2
  rw [ho] at this
  simp only [Option.map_some, Option.getD_some] at this
  intro e he
  have := Array.all_eq_true_iff_forall_mem.1 this e he
  simpa using this
/-- While an operation is not listed, one is ready. -/
theorem ready_some {m : Nat} (hc : gCheck ops n m = true) {listed : Array Bool} (hsz : listed.size = ops.size) {t : Nat} (hts : t < ops.size) (hall : ∀ i, i < t → listed.getD i false = true) (hf : listed.getD t false = false) : t ∈ Region.ready .any ops listed := by
  unfold Region.ready
  simp only [List.mem_filter, List.mem_range, Bool.and_eq_true, Bool.not_eq_true']
  have ho : ops[t]? = some ops[t] := Array.getElem?_eq_getElem hts
  refine ⟨hts, ?_, ?_⟩
  · rw [Array.getD_eq_getD_getElem?, Array.getElem?_eq_getElem (by omega)] at hf ⊢
    exact hf
  · rw [ho]
    simp only [Option.map_some, Option.getD_some]
    rw [Array.all_eq_true_iff_forall_mem]
    intro e he
    rw [hall _ (gCheck_back hc hts ho e he), Bool.or_true]
theorem behind_listed {listed : Array Bool} {t i : Nat} (hr : t ∈ Region.ready .any ops listed) (hb : gBehind ops t i = true) : listed.getD i false = true := by
  obtain ⟨h1, h2, h3⟩ : t < ops.size ∧ listed.getD t true = false ∧ ((ops[t]?).map (·.after.all fun e => !Region.binds .any e || listed.getD e.on false)).getD false = true := by
    unfold Region.ready at hr
    simp only [List.mem_filter, List.mem_range, Bool.and_eq_true, Bool.not_eq_true'] at hr
    exact ⟨hr.1, hr.2.1, hr.2.2⟩
  unfold gBehind at hb
  cases ho : ops[t]? with
  | none => rw [ho] at hb; cases hb
  | some o =>
    rw [ho] at hb h3
    simp only [Option.map_some, Option.getD_some] at hb h3
    obtain ⟨e, he, hb⟩ := Array.any_eq_true'.1 hb
    simp only [Bool.and_eq_true, beq_iff_eq] at hb
    have := Array.all_eq_true_iff_forall_mem.1 h3 e he
    rw [hb.1, hb.2] at this
    simpa using this
theorem ready_unlisted {listed : Array Bool} {t : Nat} (hr : t ∈ Region.ready .any ops listed) : t < ops.size ∧ listed.getD t true = false := by
  unfold Region.ready at hr
  simp only [List.mem_filter, List.mem_range, Bool.and_eq_true, Bool.not_eq_true'] at hr
  exact ⟨hr.1, hr.2.1⟩
theorem getD_tf {listed : Array Bool} {t : Nat} (h : t < listed.size) : listed.getD t true = listed.getD t false := by
  rw [Array.getD_eq_getD_getElem?, Array.getD_eq_getD_getElem?, Array.getElem?_eq_getElem h]
  rfl
theorem getD_seti {listed : Array Bool} {i : Nat} (hi : i < listed.size) (j : Nat) : (listed.setIfInBounds i true).getD j false = (decide (j = i) || listed.getD j false) := by
  rw [Array.getD_eq_getD_getElem?, Array.getD_eq_getD_getElem?, Array.getElem?_setIfInBounds]
  by_cases e : i = j
  · subst e
    simp [hi]
  · have : ¬ j = i := fun h => e h.symm
    simp [e, this]
/-- The rest in its one order, from operation t on. -/
theorem wpAny_tail {m : Nat} (hc : gCheck ops n m = true) : ∀ (fuel t : Nat) (listed : Array Bool) (a : Act) (w : World), n ≤ t → t ≤ ops.size → listed.size = ops.size → (∀ j, j < ops.size → listed.getD j false = decide (j < t)) → ops.size - t ≤ fuel →
    wpOps P ops Q (List.range' t (ops.size - t)) a w → wpAny P .any ops Q fuel listed a w := by
  intro fuel
  induction fuel with
  | zero =>
    intro t listed a w h1 h2 h3 h4 h5 h6
    obtain rfl : t = ops.size := by omega
    have hr : Region.ready .any ops listed = [] := by
      rw [List.eq_nil_iff_forall_not_mem]
      intro j hj
      obtain ⟨k1, k2⟩ := ready_unlisted hj
      rw [getD_tf (by omega), h4 j k1] at k2
      simp at k2
      omega
    refine ⟨hr, ?_⟩
    rw [Nat.sub_self] at h6
    exact h6
  | succ fuel ih =>
    intro t listed a w h1 h2 h3 h4 h5 h6
    have hone : ∀ j ∈ Region.ready .any ops listed, j = t := by
      intro j hj
      obtain ⟨k1, k2⟩ := ready_unlisted hj
      rw [getD_tf (by omega), h4 j k1] at k2
      have hge : t ≤ j := by simpa using k2
      rcases Nat.eq_or_lt_of_le hge with e | e
      · exact e.symm
      · have := behind_listed hj (gCheck_tail hc (by omega) k1 e)
        rw [h4 t (by omega)] at this
        simp at this
    by_cases ht : t = ops.size
    · subst ht
      refine ⟨fun _ => by rw [Nat.sub_self] at h6; exact h6, fun i hi => ?_⟩
      have := hone i hi
      have := (ready_unlisted hi).1
      omega
    · have hlt : t < ops.size := by omega
      have hsucc : ops.size - t = (ops.size - (t + 1)) + 1 := by omega
      rw [hsucc, List.range'_succ, wpOps_cons] at h6
      have hnext : ∀ a w, wpOps P ops Q (List.range' (t + 1) (ops.size - (t + 1))) a w → wpAny P .any ops Q fuel (listed.setIfInBounds t true) a w := by
        intro a w h
        refine ih (t + 1) _ a w (by omega) (by omega) (by simpa using h3) (fun j hj => ?_) (by omega) h
        rw [getD_seti (by omega), h4 j hj, Bool.eq_iff_iff]
        simp only [Bool.or_eq_true, decide_eq_true_eq]
        omega
      refine ⟨fun hr => ?_, fun i hi => ?_⟩
      · exfalso
        have hmem : t ∈ Region.ready .any ops listed := ready_some hc h3 hlt (fun i hi => by rw [h4 i (by omega)]; simpa using hi) (by rw [h4 t hlt]; simp)
        rw [hr] at hmem
        cases hmem
      · obtain rfl := hone i hi
        exact wpOp_mono hnext h6
theorem put_get {a : Act} {d t : Nat} {v : Value} (hd : d < a.tmps.size) : (a.put (some d) v).tmps[t]? = if d = t then some v else a.tmps[t]? := by
  unfold Act.put
  simp only
  rw [Array.getElem?_setIfInBounds]
  by_cases e : d = t
  · subst e; simp [hd]
  · simp [e]
/-- What is asked of one of the first n operations: from any frame and world in which the operations that it stands behind have yielded, it yields what F says, and memory has only been made. -/
def gOp (P : Program) (ops : Array Oper) (Q : Exit → Act → World → Prop) (n : Nat) (F : Nat → World → Value → Prop) (a0 : Act) (w0 : World) (j : Nat) : Prop :=
  ∀ (o : Oper) (a : Act) (w : World) (K : Act → World → Prop), ops[j]? = some o → w0.grownBy w none → gSame ops n a0 a → (∀ i, i < n → gBehind ops j i = true → ∃ v, a.tmps[gDst ops i]? = some v ∧ F i w v) →
    (∀ v w', w.grownBy w' none → F j w' v → K (a.put o.dst v) w') → o.wp P a w K Q
theorem GrowI.step {m : Nat} (hc : gCheck ops n m = true) (hm : a0.tmps.size = m) (hF : ∀ j w w' v, F j w v → w.grownBy w' none → F j w' v) {listed : Array Bool} {a : Act} {w w' : World} {v : Value} {j : Nat}
    (h : GrowI ops n F a0 w0 listed a w) (hj : j < n) (hg : w.grownBy w' none) (hv : F j w' v) : GrowI ops n F a0 w0 (listed.setIfInBounds j true) (a.put (some (gDst ops j)) v) w' := by
  obtain ⟨o, ho, _, _, hlt⟩ := gCheck_op hc hj
  have hjs : j < ops.size := (Array.getElem?_eq_some_iff.1 ho).1
  have hd : gDst ops j < a.tmps.size := by rw [h.ts]; omega
  refine ⟨by simpa using h.sz, gb_trans h.g hg, by unfold Act.put; simpa using h.ts, h.df, fun t ht => ?_, fun i hi hl => ?_, fun i hi his => ?_⟩
  · rw [put_get hd, if_neg (ht j hj (by rw [getD_seti (by rw [h.sz]; exact hjs)]; simp))]
    exact h.oth t (fun i hi hl => ht i hi (by rw [getD_seti (by rw [h.sz]; exact hjs), hl, Bool.or_true]))
  · by_cases e : i = j
    · subst e
      exact ⟨v, by rw [put_get hd, if_pos rfl], hv⟩
    · rw [getD_seti (by rw [h.sz]; exact hjs)] at hl
      have hl' : listed.getD i false = true := by simpa [e] using hl
      obtain ⟨u, k1, k2⟩ := h.val i hi hl'
      exact ⟨u, by rw [put_get hd, if_neg (gCheck_apart hc hi hj (fun e' => e e'.symm))]; exact k1, hF i w w' u k2 hg⟩
  · have := h.rest i hi his
    rw [getD_tf (by simp; rw [h.sz]; exact his), getD_seti (by rw [h.sz]; exact hjs)]
    rw [getD_tf (by rw [h.sz]; exact his)] at this
    rw [this]
    simp
    omega
theorem wpAny_grow {m : Nat} (hc : gCheck ops n m = true) (hm : a0.tmps.size = m) (hF : ∀ j w w' v, F j w v → w.grownBy w' none → F j w' v) (hop : ∀ j, j < n → gOp P ops Q n F a0 w0 j)
    (hrest : ∀ a w, GrowI ops n F a0 w0 (Array.ofFn (n := ops.size) fun j => decide (j.val < n)) a w → wpOps P ops Q (List.range' n (ops.size - n)) a w) :
    ∀ (fuel : Nat) (listed : Array Bool) (a : Act) (w : World), GrowI ops n F a0 w0 listed a w → ops.size - (listed.toList.countP id) ≤ fuel → wpAny P .any ops Q fuel listed a w := by
  have hle := gCheck_le hc
  have hfull : ∀ (listed : Array Bool) (a : Act) (w : World), GrowI ops n F a0 w0 listed a w → (∀ j, j < n → listed.getD j false = true) → listed = Array.ofFn (n := ops.size) fun j => decide (j.val < n) := by
    intro listed a w h hall
    apply Array.ext
    · rw [h.sz]; simp
    · intro i hi hi2
      rw [h.sz] at hi
      rw [Array.getElem_ofFn]
      by_cases e : i < n
      · have := hall i e
        rw [Array.getD_eq_getD_getElem?, Array.getElem?_eq_getElem (by rw [h.sz]; exact hi)] at this
        simpa [e] using this
      · have := h.rest i (by omega) hi
        rw [Array.getD_eq_getD_getElem?, Array.getElem?_eq_getElem (by rw [h.sz]; exact hi)] at this
        simpa [e] using this
  have hgetF : ∀ j, j < ops.size → (Array.ofFn (n := ops.size) fun j => decide (j.val < n)).getD j false = decide (j < n) := by
    intro j hj
    rw [Array.getD_eq_getD_getElem?, Array.getElem?_eq_getElem (by simpa using hj), Array.getElem_ofFn]
    rfl
  intro fuel
  induction fuel with
  | zero =>
    intro listed a w h hf
    have hcnt : listed.toList.countP id = listed.toList.length := by
      have := List.countP_le_length (p := id) (l := listed.toList)
      have hs := h.sz
      rw [Array.length_toList] at this ⊢
      omega
    have hall : ∀ j, j < n → listed.getD j false = true := by
      intro j hj
      rw [List.countP_eq_length] at hcnt
      have hjl : j < listed.size := by rw [h.sz]; omega
      have := hcnt listed[j] (by simp)
      rw [Array.getD_eq_getD_getElem?, Array.getElem?_eq_getElem hjl]
      exact this
    have e := hfull listed a w h hall
    rw [e] at h ⊢
    by_cases hn : n = ops.size
    · refine wpAny_tail hc 0 n _ a w (Nat.le_refl _) hle (by simp) hgetF (by omega) (hrest a w h)
    · exfalso
      rw [e] at hcnt
      rw [List.countP_eq_length] at hcnt
      have hlt : n < (Array.ofFn (n := ops.size) fun j => decide (j.val < n)).size := by simp; omega
      have := hcnt (Array.ofFn (n := ops.size) fun j => decide (j.val < n))[n] (by simp; exact ⟨⟨n, by omega⟩, Nat.le_refl _⟩)
      rw [Array.getElem_ofFn] at this
      simp at this
  | succ fuel ih =>
    intro listed a w h hf
    by_cases hall : ∀ j, j < n → listed.getD j false = true
    · have e := hfull listed a w h hall
      rw [e] at h ⊢
      refine wpAny_tail hc (fuel + 1) n _ a w (Nat.le_refl _) hle (by simp) hgetF ?_ (hrest a w h)
      rw [e] at hf
      have hcn : (Array.ofFn (n := ops.size) fun j => decide (j.val < n)).toList.countP id ≤ n := by
        have h1 : (Array.ofFn (n := ops.size) fun j => decide (j.val < n)).toList = (List.range ops.size).map fun j => decide (j < n) := by
          apply List.ext_getElem
          · simp
          · intro i h1 h2
            simp
        rw [h1, List.countP_map]
        have h2 : ∀ k, (List.range k).countP (id ∘ fun j => decide (j < n)) ≤ n := by
          intro k
          induction k with
          | zero => simp
          | succ k ihk =>
            rw [List.range_succ, List.countP_append, List.countP_singleton]
            by_cases hk : k < n
            · have : (List.range k).countP (id ∘ fun j => decide (j < n)) ≤ k := by
                refine Nat.le_trans List.countP_le_length ?_
                simp
              split <;> omega
            · have : ¬ ((id ∘ fun j => decide (j < n)) k = true) := by simp; omega
              rw [if_neg this]
              omega
        exact h2 _
      omega
    · have hne : ∃ j, j < n ∧ listed.getD j false = false := by
        apply Classical.byContradiction
        intro hno
        apply hall
        intro j hj
        rcases Bool.eq_false_or_eq_true (listed.getD j false) with k | k
        · exact k
        · exact absurd ⟨j, hj, k⟩ hno
      refine ⟨fun hr => ?_, fun i hi => ?_⟩
      · exfalso
        -- the least one that is not listed is ready
        have hmin : ∀ k, (∃ j, j < k ∧ j < n ∧ listed.getD j false = false) → ∃ j, j < n ∧ listed.getD j false = false ∧ ∀ i, i < j → listed.getD i false = true := by
          intro k
          induction k with
          | zero => rintro ⟨j, hj, _⟩; omega
          | succ k ihk =>
            rintro ⟨j, hj, hjn, hjf⟩
            by_cases hex : ∃ j, j < k ∧ j < n ∧ listed.getD j false = false
            · exact ihk hex
            · have hjk : j = k := by
                apply Classical.byContradiction
                intro hne'
                exact hex ⟨j, by omega, hjn, hjf⟩
              subst hjk
              refine ⟨j, hjn, hjf, fun i hi => ?_⟩
              rcases Bool.eq_false_or_eq_true (listed.getD i false) with q | q
              · exact q
              · exact absurd ⟨i, hi, by omega, q⟩ hex
        obtain ⟨j, hj, hjf⟩ := hne
        obtain ⟨t, ht, htf, hta⟩ := hmin n ⟨j, hj, hj, hjf⟩
        have := ready_some hc h.sz (by omega) hta htf
        rw [hr] at this
        cases this
      · obtain ⟨his, hif⟩ := ready_unlisted hi
        have hin : i < n := by
          apply Classical.byContradiction
          intro hge
          obtain ⟨j, hj, hjf⟩ := hne
          have := behind_listed hi (gCheck_tail hc (by omega) his (i := j) (by omega))
          rw [hjf] at this
          cases this
        obtain ⟨o, ho, hgd, hdst, hdl⟩ := gCheck_op hc hin
        have hsame : gSame ops n a0 a := ⟨h.ts, h.df, fun t ht => h.oth t (fun j hj _ => ht j hj)⟩
        have hw := hop i hin o a w (wpAny P .any ops Q fuel (listed.setIfInBounds i true)) ho h.g hsame (fun j hj hb => h.val j hj (behind_listed hi hb)) (fun v w' hg hv => by
          rw [hdst]
          refine ih _ _ _ (h.step hc hm hF hin hg hv) ?_
          have hil : i < listed.size := by rw [h.sz]; exact his
          have hcount : (listed.setIfInBounds i true).toList.countP id = listed.toList.countP id + 1 := by
            have hfi : listed.toList[i] = false := by
              have := hif
              rw [getD_tf hil, Array.getD_eq_getD_getElem?, Array.getElem?_eq_getElem hil] at this
              simpa using this
            rw [Array.toList_setIfInBounds, List.countP_set (by simpa using hil), hfi]
            simp
          omega)
        unfold wpOp
        rw [ho]
        simp only
        rw [if_pos (by simp [Region.wanted, hgd])]
        exact .inl hw
theorem putTo_succ (vs : List Value) (a : Act) (k : Nat) : putTo ops vs a (k + 1) = (putTo ops vs a k).put (some (gDst ops k)) (vs.getD k undef) := by
  unfold putTo
  rw [List.range_succ, List.foldl_append]
  rfl
theorem putTo_spec {m : Nat} (hc : gCheck ops n m = true) (hm : a0.tmps.size = m) (vs : List Value) : ∀ k, k ≤ n → (putTo ops vs a0 k).tmps.size = m ∧ (putTo ops vs a0 k).defers = a0.defers ∧ (∀ t, (∀ j, j < k → gDst ops j ≠ t) → (putTo ops vs a0 k).tmps[t]? = a0.tmps[t]?) ∧
    ∀ j, j < k → (putTo ops vs a0 k).tmps[gDst ops j]? = some (vs.getD j undef) := by
  intro k
  induction k with
  | zero => intro _; exact ⟨hm, rfl, fun _ _ => rfl, fun j hj => absurd hj (Nat.not_lt_zero _)⟩
  | succ k ih =>
    intro hk
    obtain ⟨h1, h2, h3, h4⟩ := ih (by omega)
    obtain ⟨o, ho, _, _, hlt⟩ := gCheck_op hc (show k < n by omega)
    have hd : gDst ops k < (putTo ops vs a0 k).tmps.size := by rw [h1]; exact hlt
    rw [putTo_succ]
    refine ⟨by unfold Act.put; simpa using h1, h2, fun t ht => ?_, fun j hj => ?_⟩
    · rw [put_get hd, if_neg (ht k (by omega))]
      exact h3 t (fun j hj => ht j (by omega))
    · by_cases e : j = k
      · subst e
        rw [put_get hd, if_pos rfl]
      · rw [put_get hd, if_neg (gCheck_apart hc (by omega) (by omega) (fun e' => e e'.symm))]
        exact h4 j (by omega)
theorem act_ext {a b : Act} (h1 : a.tmps = b.tmps) (h2 : a.defers = b.defers) : a = b := by
  cases a; cases b; simp only at h1 h2; subst h1 h2; rfl
theorem wp_region_grow {id m : Nat} {w00 : World} (hmx : P.follows .mixedOrders = true) (hc : gCheck ops n m = true) (hm : a0.tmps.size = m) (hF : ∀ j w w' v, F j w v → w.grownBy w' none → F j w' v)
    (hop : ∀ j, j < n → gOp P ops Q n F a0 w00.drew j)
    (hrest : ∀ vs : List Value, vs.length = n → ∀ w, w00.drew.grownBy w none → (∀ j, j < n → F j w (vs.getD j undef)) → wpList P ops Q (ops.toList.drop n) (putTo ops vs a0 n) w) :
    (Code.region id ops true).wp P Q a0 w00 := by
  have hle := gCheck_le hc
  refine wp_region_any hmx (wpAny_grow (F := F) (w0 := w00.drew) hc hm hF hop ?_ ops.size _ a0 _ ?_ (by omega))
  · intro a w h
    have hget : ∀ j, j < n → (Array.ofFn (n := ops.size) fun j => decide (j.val < n)).getD j false = true := by
      intro j hj
      rw [Array.getD_eq_getD_getElem?, Array.getElem?_eq_getElem (by simp; omega), Array.getElem_ofFn]
      simpa using hj
    have e1 : wpOps P ops Q (List.range' n (ops.size - n)) = wpList P ops Q (ops.toList.drop n) := by
      have := wpOps_eq_wpList (P := P) (ops := ops) (Q := Q) (ops.toList.drop n) n (fun j => by rw [List.getElem?_drop, Array.getElem?_toList])
      rw [List.length_drop, Array.length_toList] at this
      exact this
    rw [e1]
    have hea : a = putTo ops ((List.range n).map fun j => (a.tmps[gDst ops j]?).getD undef) a0 n := by
      obtain ⟨k1, k2, k3, k4⟩ := putTo_spec hc hm ((List.range n).map fun j => (a.tmps[gDst ops j]?).getD undef) n (Nat.le_refl _)
      refine act_ext ?_ (h.df.trans k2.symm)
      apply Array.ext_getElem?
      intro t
      by_cases ht : ∃ j, j < n ∧ gDst ops j = t
      · obtain ⟨j, hj, rfl⟩ := ht
        obtain ⟨v, q1, _⟩ := h.val j hj (hget j hj)
        rw [k4 j hj, q1, List.getD_eq_getElem?_getD, List.getElem?_map, List.getElem?_range hj]
        simp [q1]
      · have hno : ∀ j, j < n → gDst ops j ≠ t := fun j hj e => ht ⟨j, hj, e⟩
        rw [k3 t hno]
        exact h.oth t (fun j hj _ => hno j hj)
    rw [hea]
    refine hrest _ (by simp) w h.g (fun j hj => ?_)
    obtain ⟨v, q1, q2⟩ := h.val j hj (hget j hj)
    rw [List.getD_eq_getElem?_getD, List.getElem?_map, List.getElem?_range hj]
    simp only [Option.map_some, Option.getD_some, q1]
    exact q2
  · have hfalse : ∀ j, (Array.replicate ops.size false).getD j false = false := by
      intro j
      rw [Array.getD_eq_getD_getElem?, Array.getElem?_replicate]
      split <;> rfl
    refine ⟨by simp, gb_refl _ _, rfl, rfl, fun _ _ => rfl, fun j hj hl => ?_, fun j _ hj => ?_⟩
    · rw [hfalse] at hl
      cases hl
    · rw [getD_tf (by simpa using hj)]
      exact hfalse j
/-! Single operations, from whatever frame. -/
variable {o : Oper} {a : Act} {w : World} {K : Act → World → Prop}
theorem gOp_value {v : Value} (hr : (execOp a.eval o).run P w = .ok (.value v) w) (h : K (a.put o.dst v) w) : o.wp P a w K Q := by
  unfold Oper.wp
  rw [hr]
  exact h
theorem gOp_makes {v : Value} {w' : World} (hr : (execOp a.eval o).run P w = .ok (.value v) w') (h : K (a.put o.dst v) w') : o.wp P a w K Q := by
  unfold Oper.wp
  rw [hr]
  exact h
end
end Go.Proofs.YtihobnheficpjaaGreatDoor
namespace Go.Proofs.YtihobnheficpjaaGreatDoor
open Go.RowKit

theorem gb_set4 (w : World) (g : Nat) (u v x y : Value) : w.grownBy ((((w.setCell ⟨g, 0, none⟩ u).setCell ⟨g, 1, none⟩ v).setCell ⟨g, 2, none⟩ x).setCell ⟨g, 3, none⟩ y) (some g) :=
  gb_set (gb_set3 w g u v x) (.inr rfl) y
def zcrew : Array Value := #[.slice none 0 0, .slice none 0 0, .slice none 0 0, .slice none 0 0]
/-- The copy in the making lies in block x3, the argument's box in xb, the result's cell in R. -/
structure CopyMid (w wx : World) (xb R x3 b2 : Nat) (d0 k0 o0 r0 d k o r : Value) (c : Crew) (D Rw : List (List Int)) (xs ys : List Value) : Prop where
  b : BoxC wx xb d0 k0 o0 r0 c
  res : Blk wx R 27 #[.slice none 0 0, .slice none 0 0, .slice none 0 0, .slice none 0 0]
  x : Blk wx x3 27 #[d, k, o, r]
  dq : LX wx w.heap.size d D xs
  ct : RI wx k c.counts
  dn : OwnI wx w.heap.size o c.done
  ro : LX wx b2 r Rw ys
  hb : w.heap.size ≤ b2
  hbx : b2 ≤ wx.heap.size
  ap : r = .slice none 0 0 ∨ ∀ g, d.ownBlock = some g → g < b2
  al : Apart (o :: (xs ++ ys))
  g : w.grownBy wx none
  lx : w.heap.size ≤ x3
  nb : xb ≠ x3
  nr : R ≠ x3
  hR : w.heap.size ≤ R
section
variable {w wx wy : World} {xb R x3 b2 : Nat} {d0 k0 o0 r0 d k o r : Value} {c : Crew} {D Rw : List (List Int)} {xs ys : List Value}
theorem CopyMid.new (M : CopyMid w wx xb R x3 b2 d0 k0 o0 r0 d k o r c D Rw xs ys) (hg : wx.grownBy wy none) : CopyMid w wy xb R x3 b2 d0 k0 o0 r0 d k o r c D Rw xs ys :=
  ⟨M.b.new hg, M.res.grown hg (by simp), M.x.grown hg (by simp), M.dq.new hg, M.ct.new hg, M.dn.new hg, M.ro.new hg, M.hb, Nat.le_trans M.hbx hg.size, M.ap, M.al, gb_trans M.g hg, M.lx, M.nb, M.nr, M.hR⟩
theorem BoxC.grown {w w' : World} {g : Nat} {d k o r : Value} {c : Crew} {row : Option Nat} (h : BoxC w g d k o r c) (hg : w.grownBy w' row) (hne : some g ≠ row) (hr : NotE w 3 row) (hr' : NotE w 25 row) : BoxC w' g d k o r c :=
  ⟨h.b.grown hg hne, h.dq.grown hg hr hr', h.ct.grown hg hr, h.dn.grown hg hr, h.ro.grown hg hr hr'⟩
theorem CopyMid.lts (M : CopyMid w wx xb R x3 b2 d0 k0 o0 r0 d k o r c D Rw xs ys) : ∀ u ∈ o :: (xs ++ ys), ∀ g, u.ownBlock = some g → g < wx.heap.size := by
  intro u hu g hg
  rcases List.mem_cons.1 hu with rfl | hu
  · exact (M.dn.lt g hg).2
  · rcases List.mem_append.1 hu with hu | hu
    · exact (M.dq.lts u hu g hg).2
    · exact (M.ro.lts u hu g hg).2
theorem CopyMid.apR (M : CopyMid w wx xb R x3 b2 d0 k0 o0 r0 d k o r c D Rw xs ys) {f : Value} {l : List Int} (hf : OwnI wy wx.heap.size f l) : Apart (o :: (xs ++ (ys ++ [f]))) := by
  have := M.al.join (Apart.one f) M.lts (fun u hu g hg => by obtain rfl : u = f := (by simpa using hu); exact (hf.lt g hg).1)
  simpa using this
theorem CopyMid.apD (M : CopyMid w wx xb R x3 b2 d0 k0 o0 r0 d k o r c D Rw xs []) {f : Value} {l : List Int} (hf : OwnI wy wx.heap.size f l) : Apart (o :: ((xs ++ [f]) ++ [])) := by
  have := M.apR hf
  simpa using this
/-- One more deque. -/
theorem CopyMid.pushD (M : CopyMid w wx xb R x3 b2 d0 k0 o0 r0 d k o (.slice none 0 0) c D [] xs []) (hc : CV w (.agg #[d0, k0, o0, r0]) c) (hg : wx.grownBy wy d.ownBlock) {v' f : Value} {D' : List (List Int)} (ho : LX wy w.heap.size v' D' (xs ++ [f])) (hal : Apart (o :: ((xs ++ [f]) ++ []))) :
    wy.cell? ⟨x3, 0, none⟩ = some d ∧ wy.frozen? ⟨x3, 0, none⟩ = false ∧ CopyMid w (wy.setCell ⟨x3, 0, none⟩ v') xb R x3 b2 d0 k0 o0 r0 v' k o (.slice none 0 0) c D' [] (xs ++ [f]) [] := by
  have hne : ∀ {g : Nat} {cs : Array Value}, Blk wx g 27 cs → some g ≠ d.ownBlock := fun hb e => M.dq.notE (by decide) _ e.symm _ hb
  have hx := M.x.grown hg (hne M.x)
  have hst : wy.grownBy (wy.setCell ⟨x3, 0, none⟩ v') (some x3) := gb_set (gb_refl wy (some x3)) (.inr rfl) _
  have hg2 : w.grownBy wy none := M.dq.gb M.g hg (Nat.le_refl _)
  have hg3 : w.grownBy (wy.setCell ⟨x3, 0, none⟩ v') none := gb_set hg2 (.inl M.lx) _
  have hn2 : NotE wy 3 (some x3) := NotE.blk hx (by decide)
  have hn3 : NotE wy 25 (some x3) := NotE.blk hx (by decide)
  have hn1 : NotE wx 3 d.ownBlock := M.dq.notE (by decide)
  obtain ⟨d0', k0', o0', r0', e, q1, q2, q3, q4⟩ := hc
  injection e with e
  injection e with e
  injection e with e1 e
  injection e with e2 e
  injection e with e3 e
  injection e with e4 e
  subst e1 e2 e3 e4
  refine ⟨hx.cell 0, hx.frozen 0, ⟨(M.b.b.grown hg (hne M.b.b)).far M.nb _, q1.new hg3, q2.new hg3, q3.new hg3, q4.new hg3⟩, (M.res.grown hg (hne M.res)).far M.nr _, hx.set_ 0 v', ?_, (M.ct.grown hg hn1).grown hst hn2, (M.dn.grown hg hn1).grown hst hn2, LX.nil _ _, M.hb, ?_, .inl rfl, hal, hg3, M.lx, M.nb, M.nr, M.hR⟩
  · exact ho.grown hst hn2 hn3
  · exact Nat.le_trans M.hbx (Nat.le_trans hg.size hst.size)
/-- One more row. -/
theorem CopyMid.pushR (M : CopyMid w wx xb R x3 b2 d0 k0 o0 r0 d k o r c D Rw xs ys) (hlt : ∀ g, d.ownBlock = some g → g < b2) (hc : CV w (.agg #[d0, k0, o0, r0]) c) (hg : wx.grownBy wy r.ownBlock) {v' f : Value} {R' : List (List Int)} (ho : LX wy b2 v' R' (ys ++ [f])) (hal : Apart (o :: (xs ++ (ys ++ [f])))) :
    wy.cell? ⟨x3, 3, none⟩ = some r ∧ wy.frozen? ⟨x3, 3, none⟩ = false ∧ CopyMid w (wy.setCell ⟨x3, 3, none⟩ v') xb R x3 b2 d0 k0 o0 r0 d k o v' c D R' xs (ys ++ [f]) := by
  have hne : ∀ {g : Nat} {cs : Array Value}, Blk wx g 27 cs → some g ≠ r.ownBlock := fun hb e => M.ro.notE (by decide) _ e.symm _ hb
  have hx := M.x.grown hg (hne M.x)
  have hst : wy.grownBy (wy.setCell ⟨x3, 3, none⟩ v') (some x3) := gb_set (gb_refl wy (some x3)) (.inr rfl) _
  have hg2 : w.grownBy wy none := M.ro.gb M.g hg M.hb
  have hg3 : w.grownBy (wy.setCell ⟨x3, 3, none⟩ v') none := gb_set hg2 (.inl M.lx) _
  have hn2 : NotE wy 3 (some x3) := NotE.blk hx (by decide)
  have hn3 : NotE wy 25 (some x3) := NotE.blk hx (by decide)
  have hn1 : NotE wx 3 r.ownBlock := M.ro.notE (by decide)
  have hdq : LX wy w.heap.size d D xs := by
    cases hr : r.ownBlock with
    | none => rw [hr] at hg; exact M.dq.new hg
    | some b =>
      rw [hr] at hg
      refine M.dq.far hg (hr ▸ hn1) (fun e => ?_)
      have := hlt b e
      have := (M.ro.lt b hr).1
      omega
  obtain ⟨d0', k0', o0', r0', e, q1, q2, q3, q4⟩ := hc
  injection e with e
  injection e with e
  injection e with e1 e
  injection e with e2 e
  injection e with e3 e
  injection e with e4 e
  subst e1 e2 e3 e4
  refine ⟨hx.cell 3, hx.frozen 3, ⟨(M.b.b.grown hg (hne M.b.b)).far M.nb _, q1.new hg3, q2.new hg3, q3.new hg3, q4.new hg3⟩, (M.res.grown hg (hne M.res)).far M.nr _, hx.set_ 3 v', hdq.grown hst hn2 hn3, (M.ct.grown hg hn1).grown hst hn2, (M.dn.grown hg hn1).grown hst hn2, ho.grown hst hn2 hn3, M.hb, Nat.le_trans M.hbx (Nat.le_trans hg.size hst.size), .inr hlt, hal, hg3, M.lx, M.nb, M.nr, M.hR⟩
end
def CrewOut (w : World) (c : Crew) (e : Ending) (w' : World) : Prop := ∃ v, e = .returned v ∧ OwnC w' w.heap.size v c ∧ w.grownBy w' none
theorem CopyMid.mk0 {w W w1 : World} {x3 : Nat} {d0 k0 o0 r0 k o : Value} {c : Crew} (hgW : w.grownBy W none) (hg : W.grownBy w1 none) (hX : BoxC W w.heap.size d0 k0 o0 r0 c) (hR : Blk W (w.heap.size + 1) 27 #[.slice none 0 0, .slice none 0 0, .slice none 0 0, .slice none 0 0])
    (hB : Blk w1 x3 27 #[.slice none 0 0, .slice none 0 0, .slice none 0 0, .slice none 0 0]) (hbg : W.heap.size ≤ x3) (hk : OwnI w1 W.heap.size k c.counts) (ho : OwnI w1 W.heap.size o c.done) :
    CopyMid w ((((w1.setCell ⟨x3, 0, none⟩ (.slice none 0 0)).setCell ⟨x3, 1, none⟩ k).setCell ⟨x3, 2, none⟩ o).setCell ⟨x3, 3, none⟩ (.slice none 0 0)) w.heap.size (w.heap.size + 1) x3 w.heap.size d0 k0 o0 r0 (.slice none 0 0) k o (.slice none 0 0) c [] [] [] [] := by
  have hst := gb_set4 w1 x3 (.slice none 0 0) k o (.slice none 0 0)
  have hn : NotE w1 3 (some x3) := NotE.blk hB (by decide)
  have hn' : NotE w1 25 (some x3) := NotE.blk hB (by decide)
  have h1 := hX.b.lt
  have h2 := hR.lt
  have h3 := hgW.size
  have hs := hg.size
  exact ⟨(hX.new hg).grown hst (by simp; omega) hn hn', (hR.grown hg (by simp)).grown hst (by simp; omega), (((hB.set_ 0 _).set_ 1 _).set_ 2 _).set_ 3 _, LX.nil _ _, hk.ri.grown hst hn, (ho.low h3).grown hst hn, LX.nil _ _, Nat.le_refl _, Nat.le_trans h3 (Nat.le_trans hs hst.size), .inl rfl, Apart.one _,
    gb_new (gb_trans hgW hg) hst (fun g e => by cases e; exact .inl (by omega)), by omega, by omega, by omega, by omega⟩
theorem CopyMid.end_ {w wx : World} {xb R x3 b2 : Nat} {d0 k0 o0 r0 d k o r : Value} {c : Crew} {xs ys : List Value} (M : CopyMid w wx xb R x3 b2 d0 k0 o0 r0 d k o r c c.deques c.rows xs ys) :
    CrewOut w c (.returned (.agg #[d, k, o, r])) ((((wx.setCell ⟨R, 0, none⟩ d).setCell ⟨R, 1, none⟩ k).setCell ⟨R, 2, none⟩ o).setCell ⟨R, 3, none⟩ r) := by
  have hst := gb_set4 wx R d k o r
  have hne : NotE wx 3 (some R) := NotE.blk M.res (by decide)
  have hne2 : NotE wx 25 (some R) := NotE.blk M.res (by decide)
  have hro := M.ro.low M.hb
  refine ⟨_, rfl, ⟨d, k, o, r, xs, ys, rfl, M.dq.grown hst hne hne2, M.ct.grown hst hne, M.dn.grown hst hne, hro.grown hst hne hne2, M.al, fun g hg hr => ?_⟩, gb_new M.g hst (fun g e => by cases e; exact .inl M.hR)⟩
  rcases M.ap with h | h
  · rw [h] at hr; cases hr
  · have := h g hg
    have := (M.ro.lt g hr).1
    omega
/-- What the operations of the region that begins the copy yield. -/
def cpF (xb base : Nat) (k0 o0 : Value) (c : Crew) : Nat → World → Value → Prop
  | 0, w, v => ∃ g, v = .slice (some ⟨g, 0, none⟩) 0 0 ∧ Blk w g 3 #[] ∧ base ≤ g
  | 1, _, v => v = .pointer (some ⟨xb, 1, none⟩)
  | 2, _, v => v = k0
  | 3, w, v => OwnI w base v c.counts
  | 4, w, v => ∃ g, v = .slice (some ⟨g, 0, none⟩) 0 0 ∧ Blk w g 3 #[] ∧ base ≤ g
  | 5, _, v => v = .pointer (some ⟨xb, 2, none⟩)
  | 6, _, v => v = o0
  | 7, w, v => OwnI w base v c.done
  | 8, w, v => ∃ k o, v = .agg #[.slice none 0 0, k, o, .slice none 0 0] ∧ OwnI w base k c.counts ∧ OwnI w base o c.done
  | 9, w, v => ∃ g, v = .pointer (some ⟨g, 0, none⟩) ∧ Blk w g 27 #[.slice none 0 0, .slice none 0 0, .slice none 0 0, .slice none 0 0] ∧ base ≤ g
  | _, _, _ => True
theorem cpF_new {xb base : Nat} {k0 o0 : Value} {c : Crew} (j : Nat) (w w' : World) (v : Value) (h : cpF xb base k0 o0 c j w v) (hg : w.grownBy w' none) : cpF xb base k0 o0 c j w' v := by
  match j, h with
  | 0, ⟨g, h1, h2, h3⟩ => exact ⟨g, h1, h2.grown hg (by simp), h3⟩
  | 1, h => exact h
  | 2, h => exact h
  | 3, h => exact OwnI.new h hg
  | 4, ⟨g, h1, h2, h3⟩ => exact ⟨g, h1, h2.grown hg (by simp), h3⟩
  | 5, h => exact h
  | 6, h => exact h
  | 7, h => exact OwnI.new h hg
  | 8, ⟨k, o, h1, h2, h3⟩ => exact ⟨k, o, h1, h2.new hg, h3.new hg⟩
  | 9, ⟨g, h1, h2, h3⟩ => exact ⟨g, h1, h2.grown hg (by simp), h3⟩
  | _ + 10, _ => trivial
set_option maxHeartbeats 8000000 in
set_option maxRecDepth 20000 in
theorem l14Copy_any (v : Value) (c : Crew) (w : World) (h : CV w v c) (hf1 : c.deques.length ≤ 1000) (hf2 : ∀ l ∈ c.deques, l.length ≤ 1000000) (hf3 : c.rows.length ≤ 1000) (hf4 : ∀ l ∈ c.rows, l.length ≤ 1000000) (hf5 : c.counts.length ≤ 1000000) (hf6 : c.done.length ≤ 1000000) :
    Calls Tryz.prog 55 #[v] w (CrewOut w c) := by
  obtain ⟨A1, n1, c1, A2, n2, c2, A3, n3, c3, A4, n4, c4, rfl, h1, h2, h3, h4⟩ := h.form
  have hX := h.box
  have hn1 := h1.len
  have hn4 := h4.len
  have Hn1 := Lib.hid hn1
  have Hn4 := Lib.hid hn4
  have hk1 : n1 ≤ 1000 := by omega
  have hk4 : n4 ≤ 1000 := by omega
  have Hf2 := Lib.hid hf2
  have Hf4 := Lib.hid hf4
  have Hcv := Lib.hid h
  clear hn1 hn4 hf2 hf4 h1 h2 h3 h4 h
  go_enter Tryz.func55, Tryz.ntmps55
  go_upto_region 1 with fail
  have hR0 := Blk.new (w.alloc (.cells #[.slice A1 n1 c1, .slice A2 n2 c2, .slice A3 n3 c3, .slice A4 n4 c4] 27)) 27 #[.slice none 0 0, .slice none 0 0, .slice none 0 0, .slice none 0 0]
  rw [World.size_alloc] at hR0
  have hX0 := hX.new (World.grownBy_alloc _ (.cells #[.slice none 0 0, .slice none 0 0, .slice none 0 0, .slice none 0 0] 27) none)
  have hgW : w.grownBy ((w.alloc (.cells #[.slice A1 n1 c1, .slice A2 n2 c2, .slice A3 n3 c3, .slice A4 n4 c4] 27)).alloc (.cells #[.slice none 0 0, .slice none 0 0, .slice none 0 0, .slice none 0 0] 27)) none := gb_alloc (gb_alloc (gb_refl w none) _) _
  generalize ((w.alloc (.cells #[.slice A1 n1 c1, .slice A2 n2 c2, .slice A3 n3 c3, .slice A4 n4 c4] 27)).alloc (.cells #[.slice none 0 0, .slice none 0 0, .slice none 0 0, .slice none 0 0] 27)) = W at hR0 hX0 hgW ⊢
  have HR0 := Lib.hid hR0
  have hRlt := hR0.lt
  have hXlt := hX0.b.lt
  clear hX hR0
  go_cut [3] (fun t3 wx => ∃ x3 k' o', t3 = .pointer (some ⟨x3, 0, none⟩) ∧ CopyMid w wx w.heap.size (w.heap.size + 1) x3 w.heap.size (.slice A1 n1 c1) (.slice A2 n2 c2) (.slice A3 n3 c3) (.slice A4 n4 c4) (.slice none 0 0) k' o' (.slice none 0 0) c [] [] [] [])
  case first =>
    refine wp_region_grow (n := 10) (m := 54) (F := cpF w.heap.size W.heap.size (.slice A2 n2 c2) (.slice A3 n3 c3) c) (by kernel_rfl) (by kernel_rfl) rfl cpF_new ?_ ?_
    · have hb1 : Hid (BoxC W w.heap.size (.slice A1 n1 c1) (.slice A2 n2 c2) (.slice A3 n3 c3) (.slice A4 n4 c4) c) := hX0
      have hct : c.counts.length ≤ 1000000000 := by omega
      have hdt : c.done.length ≤ 1000000000 := by omega
      have hgD : W.grownBy W.drew none := gb_drew (gb_refl _ none)
      clear hX0
      intro j hj o a w1 K ho hg hs hb hK
      have hg0 := gb_trans hgD hg
      have hbx := hb1.out.new hg0
      have hsz : W.heap.size ≤ w1.heap.size := hg0.size
      have e1 : a.tmps[1]? = some (.pointer (some ⟨w.heap.size, 0, none⟩)) := (hs.2.2 1 (by decide)).trans rfl
      match j, hj with
      | 0, _ =>
        obtain rfl := Option.some.inj ho
        exact gOp_makes (v := .slice (some ⟨w1.heap.size, 0, none⟩) 0 0) (w' := w1.alloc (.cells #[] 3)) (by simp [go_sem, execOp]) (hK _ _ (World.grownBy_alloc _ _ _) ⟨_, rfl, Blk.new _ _ _, hsz⟩)
      | 1, _ =>
        obtain rfl := Option.some.inj ho
        exact gOp_value (v := .pointer (some ⟨w.heap.size, 1, none⟩)) (by simp [go_sem, execOp, e1]) (hK _ _ (gb_refl _ _) rfl)
      | 2, _ =>
        obtain rfl := Option.some.inj ho
        obtain ⟨_, q1, rfl⟩ := hb 1 (by decide) (by kernel_rfl)
        have e7 : a.tmps[7]? = some _ := q1
        have d1 := hbx.d1
        exact gOp_value (v := .slice A2 n2 c2) (by simp [go_sem, execOp, e7, d1]) (hK _ _ (gb_refl _ _) rfl)
      | 3, _ =>
        obtain rfl := Option.some.inj ho
        obtain ⟨_, q1, g, rfl, hB, hbg⟩ := hb 0 (by decide) (by kernel_rfl)
        obtain ⟨_, q2, rfl⟩ := hb 2 (by decide) (by kernel_rfl)
        have e6 : a.tmps[6]? = some _ := q1
        have e8 : a.tmps[8]? = some _ := q2
        obtain ⟨v', w', hr, h3, h4⟩ := run_copy0 25 hB hbg hbx.ct hct
        exact gOp_makes (v := v') (w' := w') (by simp [execOp, resolve, invoke, builtin, eval_get e6, eval_get e8, hr]) (hK _ _ h4 h3)
      | 4, _ =>
        obtain rfl := Option.some.inj ho
        exact gOp_makes (v := .slice (some ⟨w1.heap.size, 0, none⟩) 0 0) (w' := w1.alloc (.cells #[] 3)) (by simp [go_sem, execOp]) (hK _ _ (World.grownBy_alloc _ _ _) ⟨_, rfl, Blk.new _ _ _, hsz⟩)
      | 5, _ =>
        obtain rfl := Option.some.inj ho
        exact gOp_value (v := .pointer (some ⟨w.heap.size, 2, none⟩)) (by simp [go_sem, execOp, e1]) (hK _ _ (gb_refl _ _) rfl)
      | 6, _ =>
        obtain rfl := Option.some.inj ho
        obtain ⟨_, q1, rfl⟩ := hb 5 (by decide) (by kernel_rfl)
        have e7 : a.tmps[11]? = some _ := q1
        have d1 := hbx.d2
        exact gOp_value (v := .slice A3 n3 c3) (by simp [go_sem, execOp, e7, d1]) (hK _ _ (gb_refl _ _) rfl)
      | 7, _ =>
        obtain rfl := Option.some.inj ho
        obtain ⟨_, q1, g, rfl, hB, hbg⟩ := hb 4 (by decide) (by kernel_rfl)
        obtain ⟨_, q2, rfl⟩ := hb 6 (by decide) (by kernel_rfl)
        have e6 : a.tmps[10]? = some _ := q1
        have e8 : a.tmps[12]? = some _ := q2
        obtain ⟨v', w', hr, h3, h4⟩ := run_copy0 25 hB hbg hbx.dn hdt
        exact gOp_makes (v := v') (w' := w') (by simp [execOp, resolve, invoke, builtin, eval_get e6, eval_get e8, hr]) (hK _ _ h4 h3)
      | 8, _ =>
        obtain rfl := Option.some.inj ho
        obtain ⟨k', q1, hk'⟩ := hb 3 (by decide) (by kernel_rfl)
        obtain ⟨o', q2, ho'⟩ := hb 7 (by decide) (by kernel_rfl)
        obtain ⟨Ak, nk, ck, rfl⟩ := (show OwnI _ _ k' _ from hk').ri.val
        obtain ⟨Ao, no, co, rfl⟩ := (show OwnI _ _ o' _ from ho').ri.val
        have e9 : a.tmps[9]? = some _ := q1
        have e13 : a.tmps[13]? = some _ := q2
        exact gOp_value (v := .agg #[.slice none 0 0, .slice Ak nk ck, .slice Ao no co, .slice none 0 0]) (by simp [go_sem, execOp, e9, e13]) (hK _ _ (gb_refl _ _) ⟨_, _, rfl, hk', ho'⟩)
      | 9, _ =>
        obtain rfl := Option.some.inj ho
        exact gOp_makes (v := .pointer (some ⟨w1.heap.size, 0, none⟩)) (w' := w1.alloc (.cells #[.slice none 0 0, .slice none 0 0, .slice none 0 0, .slice none 0 0] 27)) (by simp [go_sem, execOp]) (hK _ _ (World.grownBy_alloc _ _ _) ⟨_, rfl, Blk.new _ _ _, hsz⟩)
    · intro vs hvs w1 hg hall
      match vs, hvs with
      | [v0, v1, v2, v3, v4, v5, v6, v7, v8, v9], _ =>
        obtain ⟨x3, e9, hB, hbg⟩ := hall 9 (by decide)
        obtain ⟨k', o', e8, hk', ho'⟩ := hall 8 (by decide)
        obtain rfl : v9 = .pointer (some ⟨x3, 0, none⟩) := e9
        obtain rfl : v8 = .agg #[.slice none 0 0, k', o', .slice none 0 0] := e8
        have b0 := hB.cell 0
        have b1 := hB.cell 1
        have b2 := hB.cell 2
        have b3 := hB.cell 3
        have f0 := hB.frozen 0
        have f1 := hB.frozen 1
        have f2 := hB.frozen 2
        have f3 := hB.frozen 3
        have hk'' : OwnI w1 W.heap.size k' c.counts := hk'
        have ho'' : OwnI w1 W.heap.size o' c.done := ho'
        obtain ⟨Ak, nk, ck, rfl⟩ := hk''.ri.val
        obtain ⟨Ao, no, co, rfl⟩ := ho''.ri.val
        simp only [putTo, List.range, List.range.loop, List.foldl, gDst, Act.put, List.drop]
        go_wp2_with fail
        have M := CopyMid.mk0 hgW (gb_trans (gb_drew (gb_refl _ none)) hg) hX0 HR0.out hB hbg hk'' ho''
        clear b0 b1 b2 b3 f0 f1 f2 f3 hk'' ho'' hB
        go_meet
        exact ⟨x3, _, _, rfl, M⟩
  case rest =>
    obtain ⟨x3, k', o', rfl, M⟩ := hcut
    clear hX0 HR0 hgW hRlt hXlt
    have hs1 : w.heap.size ≤ w.heap.size + 1 := Nat.le_succ _
    generalize w.heap.size + 1 = R at M ⊢
    go_wp2_with fail
    go_loopg [4] (n1 + 1) (fun mm i wr => ∃ (k : Nat) (d : Value) (xs : List Value), k ≤ n1 ∧ mm = n1 + 1 - k ∧ i = .int .i64 k ∧ CopyMid w wr w.heap.size R x3 w.heap.size (.slice A1 n1 c1) (.slice A2 n2 c2) (.slice A3 n3 c3) (.slice A4 n4 c4) d k' o' (.slice none 0 0) c (c.deques.take k) [] xs [])
    case atStart => exact ⟨0, _, _, Nat.zero_le _, rfl, rfl, M⟩
    case round =>
      clear M
      obtain ⟨k, d, xs, hk, rfl, rfl, M⟩ := hrel
      have b0 := M.b.d0
      by_cases hlt : k < n1
      · obtain ⟨g, o, l, B, m, e', rfl, hl, q0, hrl2, -, -, -⟩ := M.b.dq.at_ hlt
        have hll2 : l.length ≤ 1000000 := Hf2.out l (List.mem_of_getElem? hl)
        have Ht : Hid (c.deques.take (k + 1) = c.deques.take k ++ [l]) := by
          show _ = _
          obtain ⟨hkl, rfl⟩ := List.getElem?_eq_some_iff.1 hl
          rw [List.take_succ_eq_append_getElem hkl]
        have htl : (c.deques.take k).length ≤ 1000 := by rw [List.length_take]; omega
        obtain ⟨Af, nf, cf, rfl⟩ := M.dq.rl.val
        have hlb : w.heap.size < wr.heap.size := M.b.b.lt
        have hlx : x3 < wr.heap.size := M.x.lt
        have hlg : g < wr.heap.size := by simpa using cell_lt q0
        have x0 := M.x.cell 0
        have hE : OwnI (wr.alloc (.cells #[] 3)).drew wr.heap.size (.slice (some ⟨wr.heap.size, 0, none⟩) 0 0) [] := OwnI.empty wr (Nat.le_refl _)
        have hgE : wr.grownBy (wr.alloc (.cells #[] 3)).drew none := gb_drew (World.grownBy_alloc wr _ none)
        have hrE : RI (wr.alloc (.cells #[] 3)).drew (.slice B m e') l := hrl2.new hgE
        have hlen : ([] : List Int).length + l.length ≤ 1000000000 := by simp only [List.length_nil]; omega
        clear hl
        go_wp2_with fail
        go_region_law (first
          | (refine step_extend_ints (w := (wr.alloc (.cells #[] 3)).drew) (base := wr.heap.size) (v := .slice (some ⟨wr.heap.size, 0, none⟩) 0 0) (xv := .slice B m e') (l0 := []) (l := l) (.tmp 24) (.tmp 29) rfl rfl hE hrE hlen hgE.size rfl rfl ?_; intro v' w4 hown4 hg4; have hg5 := hE.gb hgE hg4 (Nat.le_refl _); have M4 := M.new hg5; have x04 := M4.x.cell 0; have hl4 : x3 < w4.heap.size := Nat.lt_of_lt_of_le hlx hg5.size; obtain ⟨A4', n4', c4', rfl⟩ := hown4.ri.val; have r4 : OwnI w4 wr.heap.size (.slice A4' n4' c4') l := by simpa using hown4)
          | (refine step_push_lx (w := w4) (base := w.heap.size) (v := .slice Af nf cf) (ll := c.deques.take k) (l := l) (f := .slice A4' n4' c4') (.tmp 23) (.tmp 31) rfl rfl M4.dq (r4.low M.g.size) (by omega) M4.g.size rfl rfl ?_; intro v5 w5 hown5 hg6; obtain ⟨z1, z2, M5⟩ := M4.pushD Hcv.out hg6 hown5 (M.apD r4); obtain ⟨A5, n5, c5, rfl⟩ := hown5.rl.val))
        all_goals
          rw [← Ht.out] at M5
          go_wp2_with fail
          go_roundg (n1 + 1 - (k + 1))
          case measure => omega
          case rel => exact ⟨k + 1, _, _, by omega, rfl, by go_num, M5⟩
      · obtain rfl : n1 = k := by omega
        have M0 : CopyMid w wr w.heap.size R x3 wr.heap.size (.slice A1 n1 c1) (.slice A2 n2 c2) (.slice A3 n3 c3) (.slice A4 n4 c4) d k' o' (.slice none 0 0) c c.deques [] xs [] := by
          have e : c.deques.take n1 = c.deques := List.take_of_length_le (by rw [← Hn1.out]; exact Nat.le_refl _)
          rw [e] at M
          exact { M with ro := LX.nil _ _, hb := M.g.size, hbx := Nat.le_refl _, ap := .inl rfl }
        have Hlt : Hid (∀ g, d.ownBlock = some g → g < wr.heap.size) := fun g hg => (M0.dq.lt g hg).2
        clear M
        obtain ⟨w3, rfl⟩ : ∃ w3 : World, w3 = wr := ⟨_, rfl⟩
        go_wp2_with fail
        generalize w3.heap.size = b2 at M0 Hlt
        go_loopg [5] (n4 + 1) (fun mm i wr => ∃ (k : Nat) (r : Value) (ys : List Value), k ≤ n4 ∧ mm = n4 + 1 - k ∧ i = .int .i64 k ∧ CopyMid w wr w.heap.size R x3 b2 (.slice A1 n1 c1) (.slice A2 n2 c2) (.slice A3 n3 c3) (.slice A4 n4 c4) d k' o' r c c.deques (c.rows.take k) xs ys)
        case atStart => exact ⟨0, _, _, Nat.zero_le _, rfl, rfl, M0⟩
        case round =>
          clear M0
          obtain ⟨k, r, ys, hk, rfl, rfl, M⟩ := hrel
          have b3 := M.b.d3
          by_cases hlt : k < n4
          · obtain ⟨g, o, l, B, m, e', rfl, hl, q0, hrl2, -, -, -⟩ := M.b.ro.at_ hlt
            have hll2 : l.length ≤ 1000000 := Hf4.out l (List.mem_of_getElem? hl)
            have Ht : Hid (c.rows.take (k + 1) = c.rows.take k ++ [l]) := by
              show _ = _
              obtain ⟨hkl, rfl⟩ := List.getElem?_eq_some_iff.1 hl
              rw [List.take_succ_eq_append_getElem hkl]
            have htl : (c.rows.take k).length ≤ 1000 := by rw [List.length_take]; omega
            obtain ⟨Af, nf, cf, rfl⟩ := M.ro.rl.val
            have hlb : w.heap.size < wr.heap.size := M.b.b.lt
            have hlx : x3 < wr.heap.size := M.x.lt
            have hlg : g < wr.heap.size := by simpa using cell_lt q0
            have x0 := M.x.cell 3
            have hE : OwnI (wr.alloc (.cells #[] 3)).drew wr.heap.size (.slice (some ⟨wr.heap.size, 0, none⟩) 0 0) [] := OwnI.empty wr (Nat.le_refl _)
            have hgE : wr.grownBy (wr.alloc (.cells #[] 3)).drew none := gb_drew (World.grownBy_alloc wr _ none)
            have hrE : RI (wr.alloc (.cells #[] 3)).drew (.slice B m e') l := hrl2.new hgE
            have hlen : ([] : List Int).length + l.length ≤ 1000000000 := by simp only [List.length_nil]; omega
            clear hl
            go_wp2_with fail
            go_region_law (first
              | (refine step_extend_ints (w := (wr.alloc (.cells #[] 3)).drew) (base := wr.heap.size) (v := .slice (some ⟨wr.heap.size, 0, none⟩) 0 0) (xv := .slice B m e') (l0 := []) (l := l) (.tmp 43) (.tmp 48) rfl rfl hE hrE hlen hgE.size rfl rfl ?_; intro v' w4 hown4 hg4; have hg5 := hE.gb hgE hg4 (Nat.le_refl _); have M4 := M.new hg5; have x04 := M4.x.cell 3; have hl4 : x3 < w4.heap.size := Nat.lt_of_lt_of_le hlx hg5.size; obtain ⟨A4', n4', c4', rfl⟩ := hown4.ri.val; have r4 : OwnI w4 wr.heap.size (.slice A4' n4' c4') l := by simpa using hown4)
              | (refine step_push_lx (w := w4) (base := b2) (v := .slice Af nf cf) (ll := c.rows.take k) (l := l) (f := .slice A4' n4' c4') (.tmp 42) (.tmp 50) rfl rfl M4.ro (r4.low M.hbx) (by omega) M4.hbx rfl rfl ?_; intro v5 w5 hown5 hg6; obtain ⟨z1, z2, M5⟩ := M4.pushR Hlt.out Hcv.out hg6 hown5 (M.apR r4); obtain ⟨A5, n5, c5, rfl⟩ := hown5.rl.val))
            all_goals
              rw [← Ht.out] at M5
              go_wp2_with fail
              go_roundg (n4 + 1 - (k + 1))
              case measure => omega
              case rel => exact ⟨k + 1, _, _, by omega, rfl, by go_num, M5⟩
          · obtain rfl : n4 = k := by omega
            have e : c.rows.take n4 = c.rows := List.take_of_length_le (by rw [← Hn4.out]; exact Nat.le_refl _)
            rw [e] at M
            have hcr := M.end_
            obtain ⟨Ad, nd, cd, rfl⟩ := M.dq.rl.val
            obtain ⟨Ak, nk, ck, rfl⟩ := M.ct.val
            obtain ⟨Ao, no, co, rfl⟩ := M.dn.ri.val
            obtain ⟨Ar, nr, cr, rfl⟩ := M.ro.rl.val
            have x0 := M.x.cell 0
            have x1 := M.x.cell 1
            have x2 := M.x.cell 2
            have x3' := M.x.cell 3
            have y0 := M.res.cell 0
            have y1 := M.res.cell 1
            have y2 := M.res.cell 2
            have y3 := M.res.cell 3
            have f0 := M.res.frozen 0
            have f1 := M.res.frozen 1
            have f2 := M.res.frozen 2
            have f3 := M.res.frozen 3
            clear M e
            go_wp2_with fail
            refine bodyPost_ret (v := .agg #[.slice Ad nd cd, .slice Ak nk ck, .slice Ao no co, .slice Ar nr cr]) (by simp [results, Tryz.results55, go_sem, y0, y1, y2, y3]) rfl ?_
            exact hcr
end Go.Proofs.YtihobnheficpjaaGreatDoor
namespace Go.Proofs.YtihobnheficpjaaGreatDoor
open Go.RowKit

theorem LX.apart_ {w w' : World} {base b : Nat} {cur : Array Value} {v : Value} {ll : List (List Int)} {xs : List Value} (h : LX w base v ll xs) (hg : w.grownBy w' (some b)) (hB : Blk w b 3 cur) (hx : ∀ u ∈ xs, u.ownBlock ≠ some b) : LX w' base v ll xs := by
  have hne : NotE w 25 (some b) := NotE.blk hB (by decide)
  refine ⟨own_grown h.1 hg hne, fun i l hi => ?_⟩
  obtain ⟨u, k1, k2⟩ := h.2 i l hi
  exact ⟨u, k1, k2.apart_ hg (.inr (hx u (List.mem_of_getElem? k1)))⟩
theorem OwnI.block {w : World} {base g : Nat} {v : Value} {l : List Int} (h : OwnI w base v l) (hg : v.ownBlock = some g) : ∃ cur, Blk w g 3 cur := by
  rcases h.2 with ⟨rfl, _⟩ | ⟨g', cap, cur, rfl, _, hh, _⟩
  · cases hg
  · injection hg with hg
    subst hg
    exact ⟨cur, hh⟩
theorem Apart.mem_ne {o : Value} {xs ys : List Value} (h : Apart (o :: (xs ++ ys))) {b : Nat} (hb : o.ownBlock = some b) : (∀ u ∈ xs, u.ownBlock ≠ some b) ∧ (∀ u ∈ ys, u.ownBlock ≠ some b) := by
  have h1 := (List.pairwise_cons.1 h).1
  exact ⟨fun u hu => h1 u (List.mem_append_left _ hu) b hb, fun u hu => h1 u (List.mem_append_right _ hu) b hb⟩
/-- A crew in block X, its rows of the call's own. -/
structure BoxO (w : World) (base X : Nat) (d k o r : Value) (D : List (List Int)) (N : List Int) (Rw : List (List Int)) (xs ys : List Value) : Prop where
  x : Blk w X 27 #[d, k, o, r]
  dq : LX w base d D xs
  dn : OwnI w base o N
  ro : LX w base r Rw ys
  al : Apart (o :: (xs ++ ys))
  dr : ∀ g, d.ownBlock = some g → r.ownBlock ≠ some g
section
variable {w w' : World} {base X : Nat} {d k o r : Value} {D Rw : List (List Int)} {N : List Int} {xs ys : List Value}
theorem BoxO.new (h : BoxO w base X d k o r D N Rw xs ys) (hg : w.grownBy w' none) : BoxO w' base X d k o r D N Rw xs ys := ⟨h.x.grown hg (by simp), h.dq.new hg, h.dn.new hg, h.ro.new hg, h.al, h.dr⟩
theorem BoxO.cv {C : List Int} (h : BoxO w base X d k o r D N Rw xs ys) (hk : RI w k C) : CV w (.agg #[d, k, o, r]) ⟨D, C, N, Rw⟩ := ⟨d, k, o, r, rfl, h.dq.rl, hk, h.dn.ri, h.ro.rl⟩
theorem BoxO.lts (h : BoxO w base X d k o r D N Rw xs ys) : ∀ u ∈ o :: (xs ++ ys), ∀ g, u.ownBlock = some g → base ≤ g ∧ g < w.heap.size := by
  intro u hu g hg
  rcases List.mem_cons.1 hu with rfl | hu
  · exact h.dn.lt g hg
  · rcases List.mem_append.1 hu with hu | hu
    · exact h.dq.lts u hu g hg
    · exact h.ro.lts u hu g hg
/-- A crew is laid in a new block. -/
theorem BoxO.lay {c : Crew} {w1 : World} {xs ys : List Value} (h1 : LX w1 base d c.deques xs) (h3 : OwnI w1 base o c.done) (h4 : LX w1 base r c.rows ys) (h5 : Apart (o :: (xs ++ ys))) (h6 : ∀ g, d.ownBlock = some g → r.ownBlock ≠ some g) :
    BoxO (w1.alloc (.cells #[d, k, o, r] 27)) base w1.heap.size d k o r c.deques c.done c.rows xs ys :=
  have hg := World.grownBy_alloc w1 (.cells #[d, k, o, r] 27) none
  ⟨Blk.new _ _ _, h1.new hg, h3.new hg, h4.new hg, h5, h6⟩
/-- One row is put in. -/
theorem BoxO.setRow {gr n cap m s : Nat} {f : Value} {l : List Int} (h : BoxO w base X d k o (.slice (some ⟨gr, 0, none⟩) n cap) D N Rw xs ys) (hm : m < Rw.length) (hf : OwnI w base f l) (hs : ∀ u ∈ o :: (xs ++ ys), ∀ g, u.ownBlock = some g → g < s) (hfs : ∀ g, f.ownBlock = some g → s ≤ g) :
    (∃ u, w.cell? ⟨gr, m, none⟩ = some u ∧ w.frozen? ⟨gr, m, none⟩ = false) ∧ w.grownBy (w.setCell ⟨gr, m, none⟩ f) (some gr) ∧
    BoxO (w.setCell ⟨gr, m, none⟩ f) base X d k o (.slice (some ⟨gr, 0, none⟩) n cap) D N (Rw.set m l) xs (ys.set m f) := by
  have hst : w.grownBy (w.setCell ⟨gr, m, none⟩ f) (some gr) := gb_set (p := ⟨gr, m, none⟩) (gb_refl w (some gr)) (.inr rfl) _
  have hI : NotE w 3 (some gr) := h.ro.notE (by decide)
  have hE : NotE w 27 (some gr) := h.ro.notE (by decide)
  refine ⟨h.ro.cell hm, hst, h.x.grown hst (fun e => by injection e with e; exact hE _ rfl _ (e ▸ h.x)), h.dq.far hst hI (fun e => h.dr gr e rfl), h.dn.grown hst hI, h.ro.set_ hm hf, ?_, h.dr⟩
  have hyl : ys.length = Rw.length := h.ro.len
  have e : o :: (xs ++ ys.set m f) = (o :: (xs ++ ys)).set (xs.length + m + 1) f := by
    rw [List.set_cons_succ, List.set_append_right _ _ (by omega), show xs.length + m - xs.length = m by omega]
  rw [e]
  exact h.al.set hs hfs
/-- A cell of the crew is written anew. -/
theorem BoxO.put (h : BoxO w base X d k o r D N Rw xs ys) {k' : Value} : BoxO (w.setCell ⟨X, 1, none⟩ k') base X d k' o r D N Rw xs ys := by
  have hst : w.grownBy (w.setCell ⟨X, 1, none⟩ k') (some X) := gb_set (p := ⟨X, 1, none⟩) (gb_refl w (some X)) (.inr rfl) _
  have hn : NotE w 3 (some X) := NotE.blk h.x (by decide)
  have hn' : NotE w 25 (some X) := NotE.blk h.x (by decide)
  exact ⟨h.x.set_ 1 _, h.dq.grown hst hn hn', h.dn.grown hst hn, h.ro.grown hst hn hn', h.al, h.dr⟩
/-- One more node is done. -/
theorem BoxO.more {o' : Value} {N' : List Int} (h : BoxO w base X d k o r D N Rw xs ys) (hg : w.grownBy w' o.ownBlock) (ho : OwnI w' base o' N') (hb : o'.ownBlock = o.ownBlock ∨ ∃ b, o'.ownBlock = some b ∧ w.heap.size ≤ b) :
    w'.cell? ⟨X, 2, none⟩ = some o ∧ w'.frozen? ⟨X, 2, none⟩ = false ∧ BoxO (w'.setCell ⟨X, 2, none⟩ o') base X d k o' r D N' Rw xs ys := by
  have hEc : NotE w 27 o.ownBlock := h.dn.notE (by decide)
  have hx := h.x.grown hg (fun e => hEc _ e.symm _ h.x)
  have hst : w'.grownBy (w'.setCell ⟨X, 2, none⟩ o') (some X) := gb_set (p := ⟨X, 2, none⟩) (gb_refl w' (some X)) (.inr rfl) _
  have hn : NotE w' 3 (some X) := NotE.blk hx (by decide)
  have hn' : NotE w' 25 (some X) := NotE.blk hx (by decide)
  have hdq : LX w' base d D xs := by
    cases e : o.ownBlock with
    | none => rw [e] at hg; exact h.dq.new hg
    | some b =>
      rw [e] at hg
      obtain ⟨cur, hB⟩ := h.dn.block e
      exact h.dq.apart_ hg hB (h.al.mem_ne e).1
  have hro : LX w' base r Rw ys := by
    cases e : o.ownBlock with
    | none => rw [e] at hg; exact h.ro.new hg
    | some b =>
      rw [e] at hg
      obtain ⟨cur, hB⟩ := h.dn.block e
      exact h.ro.apart_ hg hB (h.al.mem_ne e).2
  refine ⟨hx.cell 2, hx.frozen 2, hx.set_ 2 _, hdq.grown hst hn hn', ho.grown hst hn, hro.grown hst hn hn', ?_, h.dr⟩
  refine List.pairwise_cons.2 ⟨fun u hu g hg' => ?_, (List.pairwise_cons.1 h.al).2⟩
  rcases hb with e | ⟨b, e, hbs⟩
  · rw [e] at hg'
    exact (List.pairwise_cons.1 h.al).1 u hu g hg'
  · rw [e] at hg'
    injection hg' with hg'
    intro hu'
    have := (h.lts u (List.mem_cons_of_mem _ hu) g hu').2
    omega
end
theorem LX.at_ {w : World} {base g n cap k : Nat} {ll : List (List Int)} {xs : List Value} (h : LX w base (.slice (some ⟨g, 0, none⟩) n cap) ll xs) (hk : k < ll.length) : ∃ l u, ll[k]? = some l ∧ xs[k]? = some u ∧ w.cell? ⟨g, k, none⟩ = some u ∧ OwnI w base u l := by
  obtain ⟨h1, h2⟩ := h
  rcases h1.2 with ⟨e, hz⟩ | ⟨g', cap', cur, e, hb, hh, hn, hm, hcs, ht⟩
  · cases e
  · injection e with e1 e2 e3
    injection e1 with e1
    injection e1 with e1
    subst e1
    obtain ⟨u, k1, k2⟩ := h2 k _ (List.getElem?_eq_getElem hk)
    refine ⟨_, u, List.getElem?_eq_getElem hk, k1, ?_, k2⟩
    have hB : Blk w g 25 cur := hh
    rw [hB.cell]
    rw [← ht, List.getElem?_take] at k1
    split at k1
    · simpa using k1
    · cases k1
theorem LX.form {w : World} {base n : Nat} {v : Value} {ll : List (List Int)} {xs : List Value} (h : LX w base v ll xs) (hn : ll.length = n) (h0 : 0 < n) : ∃ g cap, v = .slice (some ⟨g, 0, none⟩) n cap ∧ n ≤ cap ∧ base ≤ g := by
  subst hn
  rcases h.1.2 with ⟨rfl, hz⟩ | ⟨g, cap, cur, rfl, hb, hh, hn, _, hcs, ht⟩
  · omega
  · exact ⟨g, cap, rfl, hn, hb⟩
/-- A deque is put in anew, its block turned. -/
theorem LX.turn {w w' : World} {base g n cap k : Nat} {ll : List (List Int)} {xs : List Value} {u u' : Value} {l' : List Int} (h : LX w base (.slice (some ⟨g, 0, none⟩) n cap) ll xs) (hk : k < ll.length) (hu : xs[k]? = some u) (hg : w.grownBy w' u.ownBlock) (hap : Apart xs) (ho : OwnI w' base u' l') (hI : ∃ l, OwnI w base u l) :
    (∃ u0, w'.cell? ⟨g, k, none⟩ = some u0 ∧ w'.frozen? ⟨g, k, none⟩ = false) ∧ RL (w'.setCell ⟨g, k, none⟩ u') (.slice (some ⟨g, 0, none⟩) n cap) (ll.set k l') ∧ w'.grownBy (w'.setCell ⟨g, k, none⟩ u') (some g) ∧ (∀ E, E ≠ 25 → NotE w' E (some g)) := by
  obtain ⟨l0, hI⟩ := hI
  have hNu : NotE w 25 u.ownBlock := hI.notE (by decide)
  have hcs := own_grown h.1 hg hNu
  have hn : n = ll.length := by
    rcases h.1.2 with ⟨e, _⟩ | ⟨_, _, _, e, _⟩
    · cases e
    · injection e
  subst hn
  have hst : w'.grownBy (w'.setCell ⟨g, k, none⟩ u') (some g) := gb_set (p := ⟨g, k, none⟩) (gb_refl w' (some g)) (.inr rfl) _
  have s1 := World.ownsRow.stored hcs k u'
  have hneA : ∀ E, E ≠ 25 → NotE w' E (some g) := fun E hE => NotE.own (v := .slice (some ⟨g, 0, none⟩) ll.length cap) hcs hE
  have hne := hneA 3 (by decide)
  have hxl := h.len
  have hcell : ∃ u0, w'.cell? ⟨g, k, none⟩ = some u0 ∧ w'.frozen? ⟨g, k, none⟩ = false := by
    rcases hcs.2 with ⟨e0, hz⟩ | ⟨g', cap', cur, e0, hb, hh, hn, hm, hcs2, ht⟩
    · cases e0
    · injection e0 with e1 e2 e3
      injection e1 with e1
      injection e1 with e1
      subst e1
      have hB : Blk w' g 25 cur := hh
      exact ⟨_, by rw [hB.cell]; exact Array.getElem?_eq_getElem (by rw [hcs2]; omega), hB.frozen _⟩
  refine ⟨hcell, ⟨xs.set k u', ?_, fun i x hi => ?_⟩, hst, hneA⟩
  · rw [List.length_set]
    exact TS.of_own s1.1
  · by_cases hik : i = k
    · subst hik
      rw [List.getElem?_set_self hk] at hi
      obtain rfl : l' = x := by simpa using hi
      exact ⟨u', by rw [List.getElem?_set_self (by omega)], ho.ri.grown hst hne⟩
    · rw [List.getElem?_set_ne (fun e => hik e.symm)] at hi
      obtain ⟨y, k1, k2⟩ := h.2 i x hi
      refine ⟨y, by rw [List.getElem?_set_ne (fun e => hik e.symm)]; exact k1, ?_⟩
      have hyu : y.ownBlock = none ∨ y.ownBlock ≠ u.ownBlock := by
        cases hy : y.ownBlock with
        | none => exact .inl rfl
        | some b =>
          right
          intro e
          rw [Apart.iff] at hap
          rcases Nat.lt_or_gt_of_ne hik with hlt | hlt
          · exact hap i k y u b hlt k1 hu hy e.symm
          · exact hap k i u y b hlt hu k1 e.symm hy
      exact ((k2.apart_ hg hyu).ri).grown hst hne
theorem OwnI.apart2 {w w' : World} {base : Nat} {v u : Value} {l : List Int} (h : OwnI w base v l) (hg : w.grownBy w' u.ownBlock) (hne : ∀ b, v.ownBlock = some b → u.ownBlock ≠ some b) : OwnI w' base v l := by
  cases hv : v.ownBlock with
  | none => exact h.apart_ hg (.inl hv)
  | some b => exact h.apart_ hg (.inr (by rw [hv]; exact fun e => hne b hv e.symm))
theorem LX.apart2 {w w' : World} {base b0 : Nat} {v u : Value} {l : List Int} {ll : List (List Int)} {xs : List Value} (h : LX w base v ll xs) (hg : w.grownBy w' u.ownBlock) (hu : OwnI w b0 u l) (hne : ∀ b, u.ownBlock = some b → ∀ x ∈ xs, x.ownBlock ≠ some b) : LX w' base v ll xs := by
  cases e : u.ownBlock with
  | none => rw [e] at hg; exact h.new hg
  | some b =>
    rw [e] at hg
    obtain ⟨cur, hB⟩ := hu.block e
    exact h.apart_ hg hB (hne b e)
theorem Apart.cross {o u : Value} {xs ys : List Value} (h : Apart (o :: (xs ++ ys))) (hu : u ∈ xs) {b : Nat} (hb : u.ownBlock = some b) : (o.ownBlock ≠ some b) ∧ ∀ y ∈ ys, y.ownBlock ≠ some b := by
  obtain ⟨h1, h2⟩ := List.pairwise_cons.1 h
  refine ⟨fun e => h1 u (List.mem_append_left _ hu) b e hb, fun y hy => (List.pairwise_append.1 h2).2.2 u hu y hy b hb⟩
theorem wp_push_int_f {ops : Array Oper} {rest : List Oper} {o : Oper} {a : Act} {Q : Exit → Act → World → Prop} {w : World} {u : Int}
    (s x : Operand) (hgd : o.guard = none) (ho : o.op = .call { callee := .builtin .append, args := #[s, x], argTypes := #[25, 25] })
    {base : Nat} {v : Value} {l : List Int} (hown : OwnI w base v l) (hn : l.length ≤ 1000000000) (hbase : base ≤ w.heap.size)
    (hs : a.eval s = v) {N : Nat} (hx : a.eval x = .slice (some ⟨N, 0, none⟩) 1 1) (hN : N = w.heap.size)
    (h : ∀ v' w', OwnI w' base v' (l ++ [u]) → w.grownBy w' v.ownBlock → (v'.ownBlock = v.ownBlock ∨ ∃ b, v'.ownBlock = some b ∧ w.heap.size ≤ b) → wpList Tryz.prog ops Q rest (a.put o.dst v') w') :
    wpList Tryz.prog ops Q (o :: rest) a (w.alloc (.cells #[.int .i64 u] 3)) := by
  subst hN
  exact wp_push_fresh s x 25 (.int .i64 0) 1 8 Tryz.underlying25 info3 rfl (by decide) (by decide) hgd ho hown hn hbase rfl (by simp [Value.oneCell']) hs hx
    fun v' w' h1 h2 h3 => h v' w' (by unfold OwnI; simpa using h1) h2 (h3.imp id fun e => ⟨_, e, by omega⟩)
theorem CV.box_in {w w' : World} {B : Nat} {d k o r : Value} {c : Crew} (h : CV w (.agg #[d, k, o, r]) c) (hg : w.grownBy w' none) (hB : Blk w' B 27 #[d, k, o, r]) : BoxC w' B d k o r c := by
  have h' := h.new hg
  obtain ⟨d', k', o', r', e, q1, q2, q3, q4⟩ := h'
  injection e with e
  injection e with e
  injection e with e1 e
  injection e with e2 e
  injection e with e3 e
  injection e with e4 e
  subst e1 e2 e3 e4
  exact ⟨hB, q1, q2, q3, q4⟩
theorem row_short {nd : Node} {a : Int} (h : nodeFits nd a = true) : nd.row.length ≤ 1000 := by
  obtain ⟨_, _, _, h4⟩ := fits_kind h
  by_cases hk : nd.kind = 0
  · have := rowValid_len (h4 hk)
    omega
  · unfold nodeFits at h
    simp only [Bool.and_eq_true] at h
    have := h.2
    rw [if_neg hk] at this
    simp only [decide_eq_true_eq] at this
    omega
theorem Blk.past {w w' : World} {g : Nat} {t : TypeId} {cs : Array Value} {row : Option Nat} (h : Blk w g t cs) (hg : w.grownBy w' row) (hr : NotE w t row) : Blk w' g t cs := h.grown hg (fun e => hr g e.symm _ h)
/-- The copy stands in block X; the argument's box and the result's cell stand. -/
structure DoMid (w wx : World) (base X : Nat) (box : Array Value) (d k o r : Value) (D : List (List Int)) (N : List Int) (Rw : List (List Int)) (xs ys : List Value) : Prop where
  o : BoxO wx base X d k o r D N Rw xs ys
  b : Blk wx w.heap.size 27 box
  res : Blk wx (w.heap.size + 1) 27 #[.slice none 0 0, .slice none 0 0, .slice none 0 0, .slice none 0 0]
  g : w.grownBy wx none
theorem DoMid.new {w wx wy : World} {base X : Nat} {box : Array Value} {d k o r : Value} {D Rw : List (List Int)} {N : List Int} {xs ys : List Value} (M : DoMid w wx base X box d k o r D N Rw xs ys) (hg : wx.grownBy wy none) : DoMid w wy base X box d k o r D N Rw xs ys :=
  ⟨M.o.new hg, M.b.grown hg (by simp), M.res.grown hg (by simp), gb_trans M.g hg⟩
def CrewOutV (w : World) (c : Crew) (e : Ending) (w' : World) : Prop := ∃ v, e = .returned v ∧ CV w' v c ∧ w.grownBy w' none
/-- What doing a node asks of a crew. -/
structure DoPre (plan : List Node) (c : Crew) (k m : Nat) : Prop where
  pv : planValid plan = true
  k : k < c.deques.length
  m : m < plan.length
  cl : c.counts.length = plan.length
  cs : ∀ y ∈ c.counts, -1000 ≤ y ∧ y ≤ 1000
  rl : c.rows.length = plan.length
  d4 : c.deques.length ≤ 4
  dl : ∀ l ∈ c.deques, l.length ≤ 1000
  rw : ∀ l ∈ c.rows, l.length ≤ 1000
  dn : c.done.length ≤ 1000
def specDo (plan : List Node) (c : Crew) (k m : Nat) (nd : Node) : Crew :=
  { deques := c.deques.set k (c.deques.getD k [] ++ newReady plan c.counts m), counts := takeCounts plan c.counts m, done := c.done ++ [(m : Int)], rows := c.rows.set m (stepRow nd c.rows) }
set_option maxHeartbeats 8000000 in
set_option maxRecDepth 20000 in
theorem l14Do_any (pv v : Value) (plan : List Node) (c : Crew) (k m : Nat) (nd : Node) (w : World) (hp : RN w pv plan) (h : CV w v c) (hd : DoPre plan c k m) (hx : plan[m]? = some nd) :
    Calls Tryz.prog 56 #[pv, v, .int .i64 k, .int .i64 m] w (CrewOutV w (specDo plan c k m nd)) := by
  obtain ⟨A, n, cp, rfl, -, hn, -⟩ := hp.form'
  obtain ⟨A1, n1, c1, A2, n2, c2, A3, n3, c3, A4, n4, c4, rfl, h1, h2, h3, h4⟩ := h.form
  have hX := h.box
  have hn1 := h1.len
  have hn4 := h4.len
  have hk1 : k < n1 := by have := hd.k; omega
  have hm1 : m < n := by have := hd.m; omega
  have hm4 : m < n4 := by have := hd.rl; have := hd.m; omega
  have Hd := Lib.hid hd
  have Hx := Lib.hid hx
  have Hn := Lib.hid hn
  have Hn1 := Lib.hid hn1
  have Hn4 := Lib.hid hn4
  have hR0 := Blk.new (w.alloc (.cells #[.slice A1 n1 c1, .slice A2 n2 c2, .slice A3 n3 c3, .slice A4 n4 c4] 27)) 27 #[.slice none 0 0, .slice none 0 0, .slice none 0 0, .slice none 0 0]
  rw [World.size_alloc] at hR0
  have hX0 := hX.new (World.grownBy_alloc _ (.cells #[.slice none 0 0, .slice none 0 0, .slice none 0 0, .slice none 0 0] 27) none)
  have hgW : w.grownBy ((w.alloc (.cells #[.slice A1 n1 c1, .slice A2 n2 c2, .slice A3 n3 c3, .slice A4 n4 c4] 27)).alloc (.cells #[.slice none 0 0, .slice none 0 0, .slice none 0 0, .slice none 0 0] 27)) none := gb_alloc (gb_alloc (gb_refl w none) _) _
  have Hcv := Lib.hid h
  clear hn hn1 hn4 hd hx h1 h2 h3 h4 h hX
  go_enter Tryz.func56, Tryz.ntmps56
  go_upto_region 1 with fail
  generalize ((w.alloc (.cells #[.slice A1 n1 c1, .slice A2 n2 c2, .slice A3 n3 c3, .slice A4 n4 c4] 27)).alloc (.cells #[.slice none 0 0, .slice none 0 0, .slice none 0 0, .slice none 0 0] 27)) = W at hR0 hX0 hgW ⊢
  have hRlt := hR0.lt
  have hXlt := hX0.b.lt
  have d0 := hX0.d0
  have d1 := hX0.d1
  have d2 := hX0.d2
  have d3 := hX0.d3
  have hpW := hp.new hgW
  go_wp2_with fail
  refine (l14Copy_any _ c W hX0.cv (by have := Hd.out.d4; omega) (fun l hl => by have := Hd.out.dl l hl; omega) (by have := Hd.out.rl; have := planValid_len Hd.out.pv; omega) (fun l hl => by have := Hd.out.rw l hl; omega) (by have := Hd.out.cl; have := planValid_len Hd.out.pv; omega) (by have := Hd.out.dn; omega)).mono ?_
  rintro e w1 ⟨v1, rfl, ⟨d, kv, o, r, xs, ys, rfl, q1, q2, q3, q4, q5, q6⟩, hg1⟩
  have g1 := gb_trans hgW hg1
  have hX1 := hX0.b.grown hg1 (by simp)
  have hR1 := hR0.grown hg1 (by simp)
  have hsz1 := hg1.size
  have hszW := hgW.size
  obtain ⟨gd, capd, rfl, hcd, hbd⟩ := q1.form Hn1.out.symm (by omega)
  obtain ⟨gr, capr, rfl, hcr, hbr⟩ := q4.form Hn4.out.symm (by omega)
  obtain ⟨Ak, nk, ck, rfl⟩ := q2.val
  obtain ⟨Ao, no, co, rfl⟩ := q3.ri.val
  clear d0 d1 d2 d3 hX0 hR0 hgW hpW hg1 q2
  go_upto_region 2 with fail
  have hO := BoxO.lay (k := .slice Ak nk ck) q1 q3 q4 q5 q6
  have hgX := World.grownBy_alloc w1 (.cells #[.slice (some ⟨gd, 0, none⟩) n1 capd, .slice Ak nk ck, .slice Ao no co, .slice (some ⟨gr, 0, none⟩) n4 capr] 27) none
  generalize w1.alloc (.cells #[.slice (some ⟨gd, 0, none⟩) n1 capd, .slice Ak nk ck, .slice Ao no co, .slice (some ⟨gr, 0, none⟩) n4 capr] 27) = w2 at hO hgX ⊢
  have hX2 := hX1.grown hgX (by simp)
  have hR2 := hR1.grown hgX (by simp)
  have g2 := gb_trans g1 hgX
  clear hX1 hR1 q1 q3 q4 q5 q6 g1 hgX
  have hRX : w.heap.size + 1 < w1.heap.size := by omega
  have hbW : w.heap.size ≤ W.heap.size := hszW
  generalize w1.heap.size = X at hO hRX hsz1 ⊢
  generalize W.heap.size = base at hO hbd hbr hbW hsz1 hRlt hXlt
  obtain ⟨gp, ox, nd', fv, rv, rfl, hnd, e0, e1, e2, hf, hr⟩ := (hp.new g2).at_ hm1
  obtain rfl : nd = nd' := by
    have := Hx.out
    rw [hnd] at this
    injection this with this
    exact this.symm
  have hnode := planValid_node Hd.out.pv hnd
  have hf2 := hnode.2.1
  have Hin : Hid (nd.kind ≠ 0 → ∀ y ∈ nd.frm, 0 ≤ y ∧ y < c.rows.length) := by
    intro _ y hy
    have := nodeFits_mem hnode.1 hy
    have := Hd.out.rl
    have := Hd.out.m
    omega
  have hxr : nd.row.length ≤ 1000 := row_short hnode.1
  have hrl : c.rows.length ≤ 1000 := by have := Hd.out.rl; have := planValid_len Hd.out.pv; omega
  obtain ⟨Af, nf, cf, rfl⟩ := hf.val
  obtain ⟨Arv, nrv, crv, rfl⟩ := hr.val
  have hDr : w2.grownBy w2.drew none := gb_drew (gb_refl _ none)
  have hB2 := Hcv.out.box_in g2 hX2
  have cc3 := hB2.d3
  have x3 := hO.x.cell 3
  have hfD := hf.new hDr
  have hrD := hr.new hDr
  have hroD := hB2.ro.new hDr
  have hOD := hO.new hDr
  have hmR : m < c.rows.length := by rw [← Hn4.out]; exact hm4
  have hszD : base ≤ w2.drew.heap.size := by have := (hO.dq.lt gd rfl); have : w2.drew.heap.size = w2.heap.size := rfl; omega
  have hm1i : (m : Int) < (n : Int) := by omega
  have hm4i : (m : Int) < (n4 : Int) := by omega
  clear hnode hnd hf hr
  go_cut [] (fun wx => ∃ ys', DoMid w wx base X #[.slice A1 n1 c1, .slice A2 n2 c2, .slice A3 n3 c3, .slice A4 n4 c4] (.slice (some ⟨gd, 0, none⟩) n1 capd) (.slice Ak nk ck) (.slice Ao no co) (.slice (some ⟨gr, 0, none⟩) n4 capr) c.deques c.done (c.rows.set m (stepRow nd c.rows)) xs ys')
  case first =>
    go_region_law (go_simp; go_at_call 105; refine (l4Step_any _ _ nd c.rows _ ⟨_, _, rfl, by exact hfD, by exact hrD⟩ (by exact hroD) hf2 Hin.out hrl hxr).mono ?_; rintro e w3 ⟨v3, rfl, ho3, hg3⟩; have hO3 := hOD.new hg3; have x33 := hO3.x.cell 3; obtain ⟨⟨u0, cR, fR⟩, hst3, M3⟩ := hO3.setRow hmR (ho3.lower hszD) (fun u hu g hg => (hOD.lts u hu g hg).2) (fun g hg => (ho3.lt g hg).1); have hEc : NotE w3 27 (some gr) := hO3.ro.notE (by decide); have g4 := gb_new (gb_trans g2 (gb_trans hDr hg3)) hst3 (fun g e => by cases e; exact .inl (Nat.le_trans hbW hbr)); have b4 := (hX2.grown (gb_trans hDr hg3) (by simp)).past hst3 hEc; have r4 := (hR2.grown (gb_trans hDr hg3) (by simp)).past hst3 hEc; obtain ⟨A5, n5, c5, rfl⟩ := ho3.ri.val)
    all_goals
      go_wp2_with fail
      go_meet
      exact ⟨_, M3, b4, r4, g4⟩
  case rest =>
    obtain ⟨ys', M⟩ := hcut
    clear hO hOD hX2 hR2 g2 hB2 hfD hrD hroD x3 cc3 e0 e1 e2
    have hdl : c.done.length ≤ 1000 := Hd.out.dn
    have x2 := M.o.x.cell 2
    have hszc : base ≤ wc.heap.size := by have := (M.o.dq.lt gd rfl); omega
    have hMdn := M.o.dn
    go_wp2_with (at_builtin; go_must (refine wp_push_int_f (.tmp 26) (.tmp 28) rfl rfl hMdn (by omega) hszc rfl rfl rfl ?_))
    intro v5 w5 hown5 hg5 hb5
    have hne5 : NotE wc 27 (Value.ownBlock (.slice Ao no co)) := M.o.dn.notE (by decide)
    obtain ⟨x25, f25, O5⟩ := M.o.more hg5 hown5 hb5
    have hg5' := M.o.dn.gb M.g hg5 hbW
    have b5 := (M.b.past hg5 hne5)
    have r5 := (M.res.past hg5 hne5)
    have hx5 := M.o.x.past hg5 hne5
    have hst5 : w5.grownBy (w5.setCell ⟨X, 2, none⟩ v5) (some X) := gb_set (p := ⟨X, 2, none⟩) (gb_refl w5 (some X)) (.inr rfl) _
    have g6 : w.grownBy (w5.setCell ⟨X, 2, none⟩ v5) none := gb_new hg5' hst5 (fun g e => by cases e; exact .inl (by omega))
    have b6 := b5.grown hst5 (by simp; omega)
    have r6 := r5.grown hst5 (by simp; omega)
    obtain ⟨A5, n5, c5, rfl⟩ := hown5.ri.val
    clear hown5 hb5 hne5 hg5' b5 r5 hx5 hMdn hg5 x2 M hst5
    go_upto_region 4 with fail
    generalize w5.setCell ⟨X, 2, none⟩ (.slice A5 n5 c5) = w6 at O5 g6 b6 r6 ⊢
    have M6 : DoMid w w6 base X _ _ _ _ _ _ _ _ _ _ := ⟨O5, b6, r6, g6⟩
    clear O5 x25 f25 b6 r6 g6
    have d1 := M6.b.cell 1
    have hcl : c.counts.length = plan.length := Hd.out.cl
    have hB6 := Hcv.out.box_in M6.g M6.b
    go_wp2_with fail
    refine (l11Done_any _ _ plan c.counts m w6 (hp.new M6.g) hB6.ct Hd.out.pv hcl Hd.out.cs).mono ?_
    rintro e w7 ⟨cv, uv, rfl, hcs7, hrd7, hg7⟩
    have hgu : ∀ u ∈ xs, ∀ g, u.ownBlock = some g → g < w6.heap.size := fun u hu g hg => (M6.o.dq.lts u hu g hg).2
    have M7 := M6.new hg7
    obtain ⟨Ac, nc, cc, rfl⟩ := hcs7.ri.val
    obtain ⟨Au, nu, cu, rfl⟩ := hrd7.ri.val
    have hs67 : w6.heap.size ≤ w7.heap.size := hg7.size
    generalize w6.heap.size = s6 at hcs7 hrd7 hgu hs67
    clear d1 hB6 M6 hg7
    have x1 := M7.o.x.cell 1
    have y1 := M7.o.x.frozen 1
    have hst8 : w7.grownBy (w7.setCell ⟨X, 1, none⟩ (.slice Ac nc cc)) (some X) := gb_set (p := ⟨X, 1, none⟩) (gb_refl w7 (some X)) (.inr rfl) _
    have O8 := M7.o.put (k' := .slice Ac nc cc)
    have hn8 : NotE w7 3 (some X) := NotE.blk M7.o.x (by decide)
    have hcs8 : OwnI _ _ _ _ := hcs7.grown hst8 hn8
    have hrd8 : OwnI _ _ _ _ := hrd7.grown hst8 hn8
    have b8 := M7.b.grown hst8 (by simp; omega)
    have r8 := M7.res.grown hst8 (by simp; omega)
    have g8 : w.grownBy (w7.setCell ⟨X, 1, none⟩ (.slice Ac nc cc)) none := gb_new M7.g hst8 (fun g e => by cases e; exact .inl (by omega))
    go_upto_region 6 with fail
    clear x1 y1 hn8 M7 hcs7 hrd7
    have hs68 : s6 ≤ (w7.setCell ⟨X, 1, none⟩ (.slice Ac nc cc)).heap.size := Nat.le_trans hs67 hst8.size
    clear hst8
    generalize w7.setCell ⟨X, 1, none⟩ (.slice Ac nc cc) = w8 at O8 hcs8 hrd8 b8 r8 g8 hs68 ⊢
    have hkD : k < c.deques.length := Hd.out.k
    have hal := O8.al
    have hapx : Apart xs := (List.pairwise_cons.1 hal).2 |> Apart.left
    obtain ⟨l0, u, hl0, hu, hcu, hou⟩ := O8.dq.at_ hkD
    have hl0len : l0.length ≤ 1000 := Hd.out.dl l0 (List.mem_of_getElem? hl0)
    have hnr : (newReady plan c.counts m).length ≤ 1000 := by
      have h1 := List.length_filter_le (fun i => has plan i (m : Int) && decide (c.counts.getD i 0 = 1)) (List.range plan.length)
      have h2 := planValid_len Hd.out.pv
      unfold newReady
      rw [List.length_map]
      rw [List.length_range] at h1
      omega
    have Hget : Hid (c.deques.getD k [] = l0) := by show _ = _; rw [List.getD_eq_getElem?_getD, hl0]; rfl
    obtain ⟨Ae, ne, ce, rfl⟩ := hou.ri.val
    have x0 := O8.x.cell 0
    have hk1i : (k : Int) < (n1 : Int) := by omega
    have hD8 : w8.grownBy w8.drew none := gb_drew (gb_refl _ none)
    have houD := hou.new hD8
    have hrdD := hrd8.ri.new hD8
    have hlen : l0.length + (newReady plan c.counts m).length ≤ 1000000000 := by omega
    have hb8 : base ≤ w8.drew.heap.size := by have : w8.drew.heap.size = w8.heap.size := rfl; have := (O8.dq.lt gd rfl); omega
    have HO8 := Lib.hid O8
    go_cut [] (fun wx => Blk wx X 27 #[.slice (some ⟨gd, 0, none⟩) n1 capd, .slice Ac nc cc, .slice A5 n5 c5, .slice (some ⟨gr, 0, none⟩) n4 capr] ∧ Blk wx (w.heap.size + 1) 27 #[.slice none 0 0, .slice none 0 0, .slice none 0 0, .slice none 0 0] ∧ w.grownBy wx none ∧
      RL wx (.slice (some ⟨gd, 0, none⟩) n1 capd) (c.deques.set k (l0 ++ newReady plan c.counts m)) ∧ RI wx (.slice Ac nc cc) (takeCounts plan c.counts m) ∧ RI wx (.slice A5 n5 c5) (c.done ++ [(m : Int)]) ∧ RL wx (.slice (some ⟨gr, 0, none⟩) n4 capr) (c.rows.set m (stepRow nd c.rows)))
    case first =>
      go_region_law (refine step_extend_ints (w := w8.drew) (base := base) (v := .slice Ae ne ce) (xv := .slice Au nu cu) (l0 := l0) (l := newReady plan c.counts m) (.tmp 48) (.tmp 49) rfl rfl houD hrdD hlen hb8 rfl rfl ?_; intro v9 w9 hown9 hg9; have hEc : NotE w8.drew 27 (Value.ownBlock (.slice Ae ne ce)) := houD.notE (by decide); have hx9 := (O8.x.grown hD8 (by simp)).past hg9 hEc; have x90 := hx9.cell 0; obtain ⟨⟨u0, cR, fR⟩, hRL, hst9, hN9⟩ := (O8.dq.new hD8).turn hkD hu hg9 hapx hown9 ⟨_, houD⟩; obtain ⟨A9, n9, c9, rfl⟩ := hown9.ri.val)
      all_goals
        go_wp2_with fail
        go_meet
        have hum := List.mem_of_getElem? hu
        have hE9 := hN9 27 (by decide)
        have hI9 := hN9 3 (by decide)
        have g9 := gb_new (gb_trans g8 hD8) hg9 (fun g e => .inl (Nat.le_trans hbW (houD.lt g e).1))
        have c9 := (hcs8.new hD8).apart2 hg9 (fun b hb e => by have := (hcs8.lt b hb).1; have := hgu _ hum b e; omega)
        have n9' := (O8.dn.new hD8).apart2 hg9 (fun b hb e => (hal.cross hum e).1 hb)
        have r9 := (O8.ro.new hD8).apart2 hg9 houD (fun b hb => (hal.cross hum hb).2)
        exact ⟨hx9.past hst9 hE9, ((r8.grown hD8 (by simp)).past hg9 hEc).past hst9 hE9, gb_new g9 hst9 (fun g e => by cases e; exact .inl (Nat.le_trans hbW hbd)), hRL, c9.ri.grown hst9 hI9, n9'.ri.grown hst9 hI9,
          (r9.far hst9 hI9 (fun e => O8.dr gd rfl e)).rl⟩
    case rest =>
      obtain ⟨hx, hr, hg, hdq, hct, hdn, hro⟩ := hcut
      have x0 := hx.cell 0
      have x1 := hx.cell 1
      have x2 := hx.cell 2
      have x3 := hx.cell 3
      have y0 := hr.cell 0
      have y1 := hr.cell 1
      have y2 := hr.cell 2
      have y3 := hr.cell 3
      have f0 := hr.frozen 0
      have f1 := hr.frozen 1
      have f2 := hr.frozen 2
      have f3 := hr.frozen 3
      have hst := gb_set4 wc (w.heap.size + 1) (.slice (some ⟨gd, 0, none⟩) n1 capd) (.slice Ac nc cc) (.slice A5 n5 c5) (.slice (some ⟨gr, 0, none⟩) n4 capr)
      have hne : NotE wc 3 (some (w.heap.size + 1)) := NotE.blk hr (by decide)
      have hne2 : NotE wc 25 (some (w.heap.size + 1)) := NotE.blk hr (by decide)
      have hfin : CrewOutV w (specDo plan c k m nd) (.returned (.agg #[.slice (some ⟨gd, 0, none⟩) n1 capd, .slice Ac nc cc, .slice A5 n5 c5, .slice (some ⟨gr, 0, none⟩) n4 capr])) ((((wc.setCell ⟨w.heap.size + 1, 0, none⟩ (.slice (some ⟨gd, 0, none⟩) n1 capd)).setCell ⟨w.heap.size + 1, 1, none⟩ (.slice Ac nc cc)).setCell ⟨w.heap.size + 1, 2, none⟩ (.slice A5 n5 c5)).setCell ⟨w.heap.size + 1, 3, none⟩ (.slice (some ⟨gr, 0, none⟩) n4 capr)) := by
        refine ⟨_, rfl, ⟨_, _, _, _, rfl, ?_, hct.grown hst hne, hdn.grown hst hne, hro.grown hst hne hne2⟩, gb_new hg hst (fun g e => by cases e; exact .inl (Nat.le_succ _))⟩
        have := hdq.grown hst hne hne2
        unfold specDo
        rw [Hget.out]
        exact this
      have Hfin := Lib.hid hfin
      clear hfin hx hr hdq hct hdn hro hst hne hne2 HO8 O8 hcs8 hrd8 b8 r8 houD hrdD hou
      go_wp2_with fail
      refine bodyPost_ret (v := .agg #[.slice (some ⟨gd, 0, none⟩) n1 capd, .slice Ac nc cc, .slice A5 n5 c5, .slice (some ⟨gr, 0, none⟩) n4 capr]) (by simp [results, Tryz.results56, go_sem, y0, y1, y2, y3]) rfl ?_
      exact Hfin.out
end Go.Proofs.YtihobnheficpjaaGreatDoor
