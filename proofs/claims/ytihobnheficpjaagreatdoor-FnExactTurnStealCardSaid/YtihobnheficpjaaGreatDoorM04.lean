/- Plain facts on crews: counts done, sorted deques, the next turn, how many are left. Conditions: none. · Plain facts on crews: a worker lost, who has a node, new crews. Conditions: none. · Plain facts on crews: what the turns' parts do, as the walks want them. Conditions: none. -/
import Derived.Test.YtihobnheficpjaaGreatDoorM03
namespace Go.Proofs.YtihobnheficpjaaGreatDoor
/-! The deques are what is ready: sorted, they are equal. -/
theorem readyTo_sorted (plan : List Node) (D : List Int) : ∀ k, k ≤ plan.length → (readyTo plan D k).Pairwise (· ≤ ·) := by
  intro k
  induction k with
  | zero => intro _; simp [readyTo]
  | succ k ih =>
    intro hk
    have hx : plan[k]? = some plan[k] := List.getElem?_eq_getElem (by omega)
    rw [readyTo_succ D hx]
    split
    · rw [List.pairwise_append]
      refine ⟨ih (by omega), by simp, fun a ha b hb => ?_⟩
      obtain rfl : b = (k : Int) := by simpa using hb
      obtain ⟨i, h1, h2, _⟩ := (mem_readyTo (by omega)).1 ha
      omega
    · exact ih (by omega)
theorem readyOf_sorted (plan : List Node) (D : List Int) : (readyOf plan D).Pairwise (· ≤ ·) := by
  unfold readyOf
  split
  · exact readyTo_sorted plan D _ (Nat.le_refl _)
  · exact List.Pairwise.nil
theorem sort_ready {plan : List Node} {D F : List Int} : sortRow F = readyOf plan D ↔ F.Perm (readyOf plan D) := by
  constructor
  · intro h
    rw [← h]
    exact (sortRow_perm F).symm
  · intro h
    exact (sortRow_eq h.symm (readyOf_sorted plan D)).symm
theorem readyOf_len (plan : List Node) (D : List Int) : (readyOf plan D).length ≤ plan.length := by
  unfold readyOf
  split
  · exact readyTo_len plan D _
  · simp
/-! Counts done. -/
def countsFit (plan : List Node) (cs : List Int) (x : Int) : Bool := (List.range plan.length).all fun i => decide (0 ≤ cs.getD i 0) && decide (cs.getD i 0 ≤ ((needsOf plan i).length : Int)) && !(has plan i x && decide (cs.getD i 0 = 0))
def countsDone (plan : List Node) (cs : List Int) (x : Int) : Option (List Int × List Int) :=
  if planValid plan && (decide (0 ≤ x) && decide (x < plan.length)) && decide (cs.length = plan.length) && countsFit plan cs x then some (takeCounts plan cs x, newReady plan cs x) else none
theorem countsDone_ok {plan : List Node} (hv : planValid plan = true) {D : List Int} {x : Int} (h0 : 0 ≤ x) (h1 : x < plan.length) (hx : x ∉ D) : countsDone plan (lefts plan D) x = some (lefts plan (D ++ [x]), newReady plan (lefts plan D) x) := by
  unfold countsDone
  rw [if_pos, lefts_snoc hv hx h0]
  simp only [Bool.and_eq_true, decide_eq_true_eq]
  refine ⟨⟨⟨hv, h0, h1⟩, lefts_len plan D⟩, ?_⟩
  unfold countsFit
  rw [List.all_eq_true]
  intro i hi
  have hi := List.mem_range.1 hi
  have e : (lefts plan D).getD i 0 = (left plan D i : Int) := by rw [List.getD_eq_getElem?_getD, lefts_get D hi]; rfl
  have h2 := left_le plan D i
  have h3 := left_snoc hv hx h0 i
  rw [e]
  simp only [Bool.and_eq_true, decide_eq_true_eq, Bool.not_eq_true', Bool.and_eq_false_iff, decide_eq_false_iff_not]
  refine ⟨⟨by omega, by omega⟩, ?_⟩
  by_cases hh : has plan i x = true
  · rw [if_pos hh] at h3
    exact .inr (by omega)
  · exact .inl (by simpa using hh)
/-- The node that a turn takes has its counts. -/
theorem CrewOk.done {plan : List Node} {c : Crew} (h : CrewOk plan c) {x : Int} (hx : x ∈ readyOf plan c.done) : countsDone plan c.counts x = some (takeCounts plan c.counts x, newReady plan c.counts x) := by
  obtain ⟨m, hm, rfl, hxD, hxf⟩ := (mem_readyOf h.pv).1 hx
  rw [h.counts, countsDone_ok h.pv (Int.natCast_nonneg m) (by omega) hxD, lefts_snoc h.pv hxD (Int.natCast_nonneg m)]
/-! How many are left; the next turn. -/
def crewLeft (plan : List Node) (c : Crew) : Int := if crewValid plan c then (plan.length : Int) - c.done.length else -1
theorem turnFrom_ok {plan : List Node} {c : Crew} (h : CrewOk plan c) {k : Nat} (hk : k < c.deques.length) : turnFrom plan c (k : Int) = -1 ∧ (∀ i, i < c.deques.length → c.deques.getD i [] = []) ∨
    ∃ f : Nat, turnFrom plan c (k : Int) = f ∧ f < c.deques.length ∧ c.deques.getD f [] ≠ [] ∧ (f ≠ k → c.deques.getD k [] = []) := by
  have hn : 0 < c.deques.length := by omega
  unfold turnFrom
  rw [crewValid_iff.2 h, isWorker_iff.2 ⟨Int.natCast_nonneg k, by omega⟩]
  simp only [Bool.and_self, if_true, Int.toNat_natCast]
  generalize hl : (List.range c.deques.length).map (fun s => (k + s) % c.deques.length) = l
  have hmem : ∀ i, i ∈ l → i < c.deques.length := by
    intro i hi
    rw [← hl] at hi
    obtain ⟨s, _, rfl⟩ := List.mem_map.1 hi
    exact Nat.mod_lt _ hn
  have hall : ∀ i, i < c.deques.length → i ∈ l := by
    intro i hi
    rw [← hl]
    refine List.mem_map.2 ⟨(i + (c.deques.length - k)) % c.deques.length, List.mem_range.2 (Nat.mod_lt _ hn), ?_⟩
    rw [Nat.add_mod, Nat.mod_mod, ← Nat.add_mod]
    have : k + (i + (c.deques.length - k)) = i + c.deques.length := by omega
    rw [this, Nat.add_mod_right, Nat.mod_eq_of_lt hi]
  have hhead : ∃ t, l = k :: t := by
    obtain ⟨m, hm⟩ : ∃ m, c.deques.length = m + 1 := ⟨c.deques.length - 1, by omega⟩
    rw [← hl, hm, List.range_succ_eq_map]
    exact ⟨_, by simp only [List.map_cons, Nat.add_zero]; rw [Nat.mod_eq_of_lt (by omega)]⟩
  cases hf : l.find? (fun i => !decide (c.deques.getD i [] = [])) with
  | none =>
    refine .inl ⟨rfl, fun i hi => ?_⟩
    have := List.find?_eq_none.1 hf i (hall i hi)
    simpa using this
  | some f =>
    refine .inr ⟨f, rfl, hmem f (List.mem_of_find?_eq_some hf), ?_, fun hne => ?_⟩
    · have := List.find?_some hf
      simpa using this
    · obtain ⟨t, rfl⟩ := hhead
      by_cases he : c.deques.getD k [] = []
      · exact he
      · rw [List.find?_cons_of_pos (by simpa using he)] at hf
        injection hf with hf
        exact absurd hf.symm hne
theorem left_node {plan : List Node} {c : Crew} (_h : CrewOk plan c) (hl : c.done.length < plan.length) : ∃ i : Nat, i < plan.length ∧ (i : Int) ∉ c.done := by
  by_cases hc : ∃ i : Nat, i < plan.length ∧ (i : Int) ∉ c.done
  · exact hc
  · exfalso
    have hs : ∀ y ∈ (List.range plan.length).map (fun i : Nat => (i : Int)), y ∈ c.done := fun y hy => by
      obtain ⟨i, hi, rfl⟩ := List.mem_map.1 hy
      by_cases hd : (i : Int) ∈ c.done
      · exact hd
      · exact absurd ⟨i, List.mem_range.1 hi, hd⟩ hc
    have hn : ((List.range plan.length).map (fun i : Nat => (i : Int))).Nodup := List.Pairwise.map _ (fun a b hab e => hab (by omega)) (List.nodup_range (n := plan.length))
    have := nodup_le hn hs
    simp at this
    omega
/-- While a node is left, every worker has a next turn. -/
theorem turnNext_left {plan : List Node} {c : Crew} (h : CrewOk plan c) (hl : c.done.length < plan.length) {k : Nat} (hk : k < c.deques.length) : ∃ c', turnNext plan c (k : Int) = some c' := by
  obtain ⟨i, hi, hd⟩ := left_node h hl
  obtain ⟨x, hx⟩ := ready_left h.pv hi hd
  have hxf : x ∈ c.deques.flatten := h.dq.mem_iff.2 hx
  obtain ⟨d, hd1, hd2⟩ := List.mem_flatten.1 hxf
  obtain ⟨j, hj, rfl⟩ := List.mem_iff_getElem.1 hd1
  have hjd : c.deques.getD j [] ≠ [] := by
    rw [List.getD_eq_getElem?_getD, List.getElem?_eq_getElem hj]
    intro e
    simp only [Option.getD_some] at e
    rw [e] at hd2
    cases hd2
  have hv := crewValid_iff.2 h
  unfold turnNext
  rcases turnFrom_ok h hk with ⟨_, h2⟩ | ⟨f, h1, h2, h3, h4⟩
  · exact absurd (h2 j hj) hjd
  · rw [h1, if_neg (by omega)]
    by_cases hfk : f = k
    · subst hfk
      rw [if_pos rfl]
      unfold turnRun
      rw [hv, isWorker_iff.2 ⟨Int.natCast_nonneg f, by omega⟩]
      simp only [Bool.and_self, if_true, Int.toNat_natCast]
      cases hg : (c.deques.getD f []).getLast? with
      | none => exact absurd (List.getLast?_eq_none_iff.1 hg) h3
      | some y => exact ⟨_, rfl⟩
    · rw [if_neg (by omega)]
      unfold turnSteal
      rw [hv, isWorker_iff.2 ⟨Int.natCast_nonneg k, by omega⟩, isWorker_iff.2 ⟨Int.natCast_nonneg f, by omega⟩]
      have hne : ¬ (k : Int) = (f : Int) := by omega
      simp only [Int.toNat_natCast, Bool.and_self, h4 hfk, decide_true, hne, decide_false, Bool.not_false, if_true]
      cases hg : c.deques.getD f [] with
      | nil => exact absurd hg h3
      | cons y r => exact ⟨_, rfl⟩
/-- What a next turn leaves. -/
theorem turnNext_some {plan : List Node} {c c' : Crew} {w : Int} (h : turnNext plan c w = some c') : CrewOk plan c ∧ CrewOk plan c' ∧ c'.deques.length = c.deques.length ∧ ∃ x, x ∈ readyOf plan c.done ∧ c'.done = c.done ++ [x] ∧ c'.rows = c.rows.set x.toNat (valAt plan x.toNat) := by
  unfold turnNext at h
  split at h
  · cases h
  split at h
  · obtain ⟨h1, k, r, x, rfl, hk, hd, hx, rfl, h2⟩ := turnRun_some h
    exact ⟨h1, h2, by show (List.set _ _ _).length = _; rw [List.length_set]; show (List.set _ _ _).length = _; rw [List.length_set], x, hx, rfl, rfl⟩
  · obtain ⟨h1, k, m, r, x, rfl, -, hk, hm, hkm, hd, hd2, hx, rfl, h2⟩ := turnSteal_some h
    exact ⟨h1, h2, by show (List.set _ _ _).length = _; rw [List.length_set]; show (List.set _ _ _).length = _; rw [List.length_set], x, hx, rfl, rfl⟩
theorem turnNext_less {plan : List Node} {c c' : Crew} {w : Int} (h : turnNext plan c w = some c') : crewLeft plan c' = crewLeft plan c - 1 := by
  obtain ⟨h1, h2, -, x, -, h3, -⟩ := turnNext_some h
  unfold crewLeft
  rw [crewValid_iff.2 h1, crewValid_iff.2 h2, if_pos rfl, if_pos rfl, h3, List.length_append]
  simp
  omega
theorem crewLeft_nonneg {plan : List Node} {c : Crew} (h : CrewOk plan c) : 0 ≤ crewLeft plan c ∧ crewLeft plan c = (plan.length : Int) - c.done.length := by
  have := done_le h
  unfold crewLeft
  rw [crewValid_iff.2 h, if_pos rfl]
  omega
/-- Where none is left the rows are the plan's. -/
theorem rows_all {plan : List Node} {c : Crew} (h : CrewOk plan c) (hl : crewLeft plan c = 0) : c.rows = values plan := by
  have hn := (crewLeft_nonneg h).2
  have hlen : c.done.length = plan.length := by omega
  apply List.ext_getElem?
  intro i
  by_cases hi : i < plan.length
  · have hd : (i : Int) ∈ c.done := by
      by_cases hd : (i : Int) ∈ c.done
      · exact hd
      · exfalso
        have hs : ∀ y ∈ c.done, y ∈ ((List.range plan.length).map (fun i : Nat => (i : Int))).erase (i : Int) := fun y hy => by
          obtain ⟨h0, h1, _⟩ := order_closed h.order hy
          obtain ⟨j, rfl⟩ := Int.eq_ofNat_of_zero_le h0
          have hne : (j : Int) ≠ (i : Int) := fun e => hd (by rw [← e]; exact hy)
          exact (List.mem_erase_of_ne hne).2 (List.mem_map.2 ⟨j, List.mem_range.2 (by omega), rfl⟩)
        have := nodup_le (order_nodup h.order) hs
        rw [List.length_erase_of_mem (List.mem_map.2 ⟨i, List.mem_range.2 hi, rfl⟩)] at this
        simp at this
        omega
    rw [h.rows i hi, valAt_get hi]
    unfold rowWant
    rw [if_pos hd]
  · rw [List.getElem?_eq_none (by rw [h.rl]; omega), List.getElem?_eq_none (by rw [values_len]; omega)]
end Go.Proofs.YtihobnheficpjaaGreatDoor
namespace Go.Proofs.YtihobnheficpjaaGreatDoor
def loseWorker (plan : List Node) (c : Crew) (w : Int) : Option Crew :=
  if crewValid plan c && isWorker c w && !decide (c.deques.length = 1) then
    some { c with deques := (c.deques.set ((w.toNat + 1) % c.deques.length) (c.deques.getD w.toNat [] ++ c.deques.getD ((w.toNat + 1) % c.deques.length) [])).eraseIdx w.toNat }
  else none
theorem loseWorker_some {plan : List Node} {c c' : Crew} {w : Int} (h : loseWorker plan c w = some c') :
    CrewOk plan c ∧ CrewOk plan c' ∧ ∃ k : Nat, w = k ∧ k < c.deques.length ∧ 2 ≤ c.deques.length ∧
      c' = { c with deques := (c.deques.set ((k + 1) % c.deques.length) (c.deques.getD k [] ++ c.deques.getD ((k + 1) % c.deques.length) [])).eraseIdx k } := by
  unfold loseWorker at h
  split at h
  · rename_i hc
    simp only [Bool.and_eq_true, Bool.not_eq_true', decide_eq_false_iff_not] at hc
    obtain ⟨⟨hc, hw⟩, h1⟩ := hc
    obtain ⟨h0, h2⟩ := isWorker_iff.1 hw
    obtain ⟨k, rfl⟩ := Int.eq_ofNat_of_zero_le h0
    have hk : k < c.deques.length := by omega
    have H := crewValid_iff.1 hc
    have hd1 := H.d1
    have hd4 := H.d4
    injection h with h
    simp only [Int.toNat_natCast] at h
    have hnx : (k + 1) % c.deques.length < c.deques.length := Nat.mod_lt _ (by omega)
    have hne : (k + 1) % c.deques.length ≠ k := by
      by_cases he : k + 1 = c.deques.length
      · rw [he, Nat.mod_self]
        omega
      · rw [Nat.mod_eq_of_lt (by omega)]
        omega
    generalize hm : (k + 1) % c.deques.length = m at h hnx hne
    have hgm := getD_some hnx
    have hgk := getD_some hk
    generalize hdk : c.deques.getD k [] = dk at h hgk
    generalize hdm : c.deques.getD m [] = dm at h hgm
    have hL : (c.deques.set m (dk ++ dm))[k]? = some dk := by rw [List.getElem?_set_ne hne]; exact hgk
    have p1 := flat_get hL
    have p2 := flat_set hnx (dk ++ dm)
    have p3 := flat_get hgm
    have hp : ((c.deques.set m (dk ++ dm)).eraseIdx k).flatten.Perm c.deques.flatten := by
      have p4 := p1.symm.trans p2
      rw [List.append_assoc] at p4
      exact ((List.perm_append_left_iff dk).1 p4).trans p3.symm
    have hlen : ((c.deques.set m (dk ++ dm)).eraseIdx k).length = c.deques.length - 1 := by
      rw [List.length_eraseIdx_of_lt (by rw [List.length_set]; exact hk), List.length_set]
    refine ⟨H, ?_, k, rfl, hk, by omega, ?_⟩
    · rw [← h]
      exact ⟨H.pv, by show 1 ≤ (List.eraseIdx _ _).length; rw [hlen]; omega, by show (List.eraseIdx _ _).length ≤ 4; rw [hlen]; omega, H.order, H.counts, H.rl, hp.trans H.dq, H.rows⟩
    · rw [← h, hm, hdk, hdm]
  · cases h
theorem loseWorker_left {plan : List Node} {c c' : Crew} {w : Int} (h : loseWorker plan c w = some c') : crewLeft plan c' = crewLeft plan c := by
  obtain ⟨h1, h2, k, -, -, -, rfl⟩ := loseWorker_some h
  rw [(crewLeft_nonneg h1).2, (crewLeft_nonneg h2).2]
/-- Who has a node. -/
def crewAt (plan : List Node) (c : Crew) (x : Int) : Int :=
  if crewValid plan c then (match c.deques.findIdx? (fun d => decide (x ∈ d)) with
    | some i => (i : Int)
    | none => -1)
  else -1
theorem crewAt_ready {plan : List Node} {c : Crew} (h : CrewOk plan c) {x : Int} (hx : x ∈ readyOf plan c.done) : 0 ≤ crewAt plan c x := by
  have hxf : x ∈ c.deques.flatten := h.dq.mem_iff.2 hx
  obtain ⟨d, hd1, hd2⟩ := List.mem_flatten.1 hxf
  unfold crewAt
  rw [crewValid_iff.2 h, if_pos rfl]
  cases hf : c.deques.findIdx? (fun d => decide (x ∈ d)) with
  | none =>
    have := List.findIdx?_eq_none_iff.1 hf d hd1
    simp [hd2] at this
  | some i => exact Int.natCast_nonneg i
/-! New crews: the nodes that are ready at first are dealt out in turn. -/
def dealt (plan : List Node) (n k : Nat) : List (List Int) := ((readyOf plan []).take k).zipIdx.foldl (fun L x => L.set (x.2 % n) (L.getD (x.2 % n) [] ++ [x.1])) (List.replicate n [])
def crewNew (plan : List Node) (workers : Int) : Option Crew :=
  if planValid plan && (decide (1 ≤ workers) && decide (workers ≤ 4)) then
    some { deques := dealt plan workers.toNat (readyOf plan []).length, counts := countsOf plan, done := [], rows := List.replicate plan.length [] }
  else none
theorem dealt_gen (n : Nat) (hn : 0 < n) (R : List Int) : ∀ k, k ≤ R.length → ((R.take k).zipIdx.foldl (fun L x => L.set (x.2 % n) (L.getD (x.2 % n) [] ++ [x.1])) (List.replicate n [])).length = n ∧
    ((R.take k).zipIdx.foldl (fun L x => L.set (x.2 % n) (L.getD (x.2 % n) [] ++ [x.1])) (List.replicate n [])).flatten.Perm (R.take k) := by
  intro k
  induction k with
  | zero =>
    intro _
    refine ⟨by simp, ?_⟩
    have : (List.replicate n ([] : List Int)).flatten = [] := by simp
    simp [this]
  | succ k ih =>
    intro hk
    obtain ⟨h1, h2⟩ := ih (by omega)
    rw [List.take_succ_eq_append_getElem (by omega), List.zipIdx_append, List.foldl_append]
    have hl : (R.take k).length = k := by rw [List.length_take]; omega
    generalize (R.take k).zipIdx.foldl (fun L x => L.set (x.2 % n) (L.getD (x.2 % n) [] ++ [x.1])) (List.replicate n []) = L at h1 h2 ⊢
    rw [hl]
    simp only [List.zipIdx_cons, List.zipIdx_nil, List.foldl_cons, List.foldl_nil, Nat.zero_add]
    refine ⟨by rw [List.length_set]; exact h1, ?_⟩
    have hm : k % n < L.length := by rw [h1]; exact Nat.mod_lt _ hn
    have p1 := flat_set hm (L.getD (k % n) [] ++ [R[k]])
    have p2 := flat_get (getD_some hm)
    refine p1.trans ?_
    rw [List.append_assoc]
    refine (List.Perm.append_left _ List.perm_append_comm).trans ?_
    rw [← List.append_assoc]
    exact List.Perm.append_right _ (p2.symm.trans h2)
theorem crewNew_some {plan : List Node} {n : Int} {c : Crew} (h : crewNew plan n = some c) : CrewOk plan c ∧ (c.deques.length : Int) = n := by
  unfold crewNew at h
  split at h
  · rename_i hc
    simp only [Bool.and_eq_true, decide_eq_true_eq] at hc
    obtain ⟨hv, h1, h4⟩ := hc
    injection h with h
    obtain ⟨m, rfl⟩ := Int.eq_ofNat_of_zero_le (show 0 ≤ n by omega)
    obtain ⟨g1, g2⟩ := dealt_gen m (by omega) (readyOf plan []) _ (Nat.le_refl _)
    rw [List.take_length] at g2
    have e : dealt plan m (readyOf plan []).length = ((readyOf plan []).take (readyOf plan []).length).zipIdx.foldl (fun L x => L.set (x.2 % m) (L.getD (x.2 % m) [] ++ [x.1])) (List.replicate m []) := rfl
    rw [← List.take_length (l := readyOf plan [])] at g2
    rw [List.take_length] at g2
    subst h
    refine ⟨⟨hv, ?_, ?_, rfl, (lefts_nil plan).symm, by simp, ?_, fun i hi => ?_⟩, ?_⟩
    · show 1 ≤ (dealt plan _ _).length
      rw [Int.toNat_natCast, e, g1]
      omega
    · show (dealt plan _ _).length ≤ 4
      rw [Int.toNat_natCast, e, g1]
      omega
    · show (dealt plan _ _).flatten.Perm _
      rw [Int.toNat_natCast, e, List.take_length]
      exact g2
    · show (List.replicate plan.length [])[i]? = _
      rw [List.getElem?_replicate, if_pos hi]
      rfl
    · show ((dealt plan _ _).length : Int) = _
      rw [Int.toNat_natCast, e, g1]
  · cases h
end Go.Proofs.YtihobnheficpjaaGreatDoor
namespace Go.Proofs.YtihobnheficpjaaGreatDoor
/-- The row of a ready node, from the rows that the crew has. -/
theorem step_ready {plan : List Node} {c : Crew} (h : CrewOk plan c) {m : Nat} {nd : Node} (hx : plan[m]? = some nd) (hr : (m : Int) ∈ readyOf plan c.done) : stepRow nd c.rows = valAt plan m := by
  obtain ⟨m', hm, e, hxD, hxf⟩ := (mem_readyOf h.pv).1 hr
  obtain rfl : m = m' := by omega
  rw [valAt_step hx]
  unfold stepRow
  by_cases hk : nd.kind = 0
  · rw [if_pos hk, if_pos hk]
  · rw [if_neg hk, if_neg hk]
    have e : nd.frm.map (fun i => c.rows.getD i.toNat []) = nd.frm.map (fun i => (valuesTo plan m).getD i.toNat []) := by
      refine List.map_congr_left fun f hf => ?_
      rw [← frmAt_get hx] at hf
      have hfD := hxf f hf
      obtain ⟨h0, h1, _⟩ := frmAt_mem h.pv hf
      obtain ⟨j, rfl⟩ := Int.eq_ofNat_of_zero_le h0
      rw [Int.toNat_natCast]
      have h2 := h.rows j (by omega)
      unfold rowWant at h2
      rw [if_pos hfD] at h2
      rw [List.getD_eq_getElem?_getD, h2]
      show valAt plan j = _
      unfold valAt values
      exact valuesTo_getD plan (by omega) (by omega)
    rw [e]
/-! Deques. -/
def dequeValid (d : List Int) : Bool := decide (d.length ≤ 10) && d.all (fun x => decide (0 ≤ x) && decide (x ≤ 9)) && decide d.Nodup
theorem dequeValid_iff {d : List Int} : dequeValid d = true ↔ d.length ≤ 10 ∧ (∀ x ∈ d, 0 ≤ x ∧ x ≤ 9) ∧ d.Nodup := by
  unfold dequeValid
  simp only [Bool.and_eq_true, decide_eq_true_eq, List.all_eq_true, and_assoc]
theorem CrewOk.deque {plan : List Node} {c : Crew} (h : CrewOk plan c) {k : Nat} {d : List Int} (hd : c.deques[k]? = some d) : dequeValid d = true := by
  have hf := (flat_get hd).symm.trans h.dq
  have hn10 := planValid_len h.pv
  have hlen := hf.length_eq
  rw [List.length_append] at hlen
  have hrl := readyOf_len plan c.done
  refine dequeValid_iff.2 ⟨by omega, fun x hx => ?_, ?_⟩
  · obtain ⟨i, hi, rfl, _⟩ := (mem_readyOf h.pv).1 (hf.mem_iff.1 (List.mem_append_left _ hx))
    omega
  · have := (hf.nodup_iff).2 (readyOf_nodup plan c.done)
    exact (List.nodup_append.1 this).1
/-! What stands in the deques behind a turn. -/
theorem doNode_deques {plan : List Node} {c : Crew} {k : Nat} {r : List Int} {x : Int} (hk : k < c.deques.length) : (doNode plan { c with deques := c.deques.set k r } k x).deques = c.deques.set k (r ++ newReady plan c.counts x) := by
  show (c.deques.set k r).set k ((c.deques.set k r).getD k [] ++ newReady plan c.counts x) = _
  rw [List.set_set, List.getD_eq_getElem?_getD, List.getElem?_set_self hk]
  rfl
theorem doNode_deques2 {plan : List Node} {c : Crew} {k m : Nat} {r : List Int} {x : Int} (hkm : k ≠ m) (hd : c.deques[k]? = some []) : (doNode plan { c with deques := c.deques.set m r } k x).deques = (c.deques.set m r).set k (newReady plan c.counts x) := by
  show (c.deques.set m r).set k ((c.deques.set m r).getD k [] ++ newReady plan c.counts x) = _
  rw [List.getD_eq_getElem?_getD, List.getElem?_set_ne (fun e => hkm e.symm), hd]
  rfl
/-- The counts and what is ready, node by node: the first k nodes are done with. -/
def takeTo (plan : List Node) (cs : List Int) (x : Int) (k : Nat) : List Int := cs.zipIdx.map fun y : Int × Nat => if has plan y.2 x && decide (y.2 < k) then y.1 - 1 else y.1
def newReadyTo (plan : List Node) (cs : List Int) (x : Int) (k : Nat) : List Int := ((List.range k).filter fun i => has plan i x && decide (cs.getD i 0 = 1)).map (fun i : Nat => (i : Int))
theorem takeTo_zero (plan : List Node) (cs : List Int) (x : Int) : takeTo plan cs x 0 = cs := by
  apply List.ext_getElem?
  intro i
  unfold takeTo
  rw [List.getElem?_map, List.getElem?_zipIdx]
  cases cs[i]? <;> simp
theorem takeTo_all {plan : List Node} {cs : List Int} (x : Int) {k : Nat} (h : cs.length ≤ k) : takeTo plan cs x k = takeCounts plan cs x := by
  apply List.ext_getElem?
  intro i
  unfold takeTo takeCounts
  rw [List.getElem?_map, List.getElem?_map, List.getElem?_zipIdx]
  by_cases hi : i < cs.length
  · rw [List.getElem?_eq_getElem hi]
    have : i < k := by omega
    simp [this]
  · rw [List.getElem?_eq_none (by omega)]
    rfl
theorem takeTo_len (plan : List Node) (cs : List Int) (x : Int) (k : Nat) : (takeTo plan cs x k).length = cs.length := by unfold takeTo; rw [List.length_map, List.length_zipIdx]
theorem takeTo_get {plan : List Node} {cs : List Int} {x : Int} {i k : Nat} {c : Int} (h : cs[i]? = some c) : (takeTo plan cs x k)[i]? = some (if has plan i x && decide (i < k) then c - 1 else c) := by
  unfold takeTo
  rw [List.getElem?_map, List.getElem?_zipIdx, h]
  simp
/-- One node more that needs it: its count is one less. -/
theorem takeTo_succ {plan : List Node} {cs : List Int} {x : Int} {k : Nat} {c : Int} (h : cs[k]? = some c) (hh : has plan k x = true) : takeTo plan cs x (k + 1) = (takeTo plan cs x k).set k (c - 1) := by
  have hk := (List.getElem?_eq_some_iff.1 h).1
  apply List.ext_getElem?
  intro i
  by_cases hi : i < cs.length
  · have hc : cs[i]? = some cs[i] := List.getElem?_eq_getElem hi
    by_cases hik : i = k
    · subst hik
      obtain rfl : c = cs[i] := by rw [hc] at h; exact (Option.some.inj h).symm
      rw [takeTo_get hc, List.getElem?_set_self (by rw [takeTo_len]; exact hi), hh]
      simp
    · rw [takeTo_get hc, List.getElem?_set_ne (fun e => hik e.symm), takeTo_get hc]
      have : (i < k + 1) ↔ (i < k) := by omega
      simp only [this]
  · rw [List.getElem?_eq_none (by rw [takeTo_len]; omega), List.getElem?_eq_none (by rw [List.length_set, takeTo_len]; omega)]
theorem takeTo_skip {plan : List Node} {cs : List Int} {x : Int} {k : Nat} (hh : has plan k x = false) : takeTo plan cs x (k + 1) = takeTo plan cs x k := by
  apply List.ext_getElem?
  intro i
  by_cases hi : i < cs.length
  · have hc : cs[i]? = some cs[i] := List.getElem?_eq_getElem hi
    rw [takeTo_get hc, takeTo_get hc]
    by_cases hik : i = k
    · subst hik
      simp [hh]
    · have : (i < k + 1) ↔ (i < k) := by omega
      simp only [this]
  · rw [List.getElem?_eq_none (by rw [takeTo_len]; omega), List.getElem?_eq_none (by rw [takeTo_len]; omega)]
theorem newReadyTo_succ (plan : List Node) (cs : List Int) (x : Int) (k : Nat) : newReadyTo plan cs x (k + 1) = newReadyTo plan cs x k ++ (if has plan k x && decide (cs.getD k 0 = 1) then [(k : Int)] else []) := by
  unfold newReadyTo
  rw [List.range_succ, List.filter_append, List.map_append]
  congr 1
  by_cases h : (has plan k x && decide (cs.getD k 0 = 1)) = true
  · rw [if_pos h, List.filter_cons, if_pos h]
    rfl
  · rw [if_neg h, List.filter_cons, if_neg h]
    rfl
theorem newReadyTo_all (plan : List Node) (cs : List Int) (x : Int) : newReadyTo plan cs x plan.length = newReady plan cs x := rfl
end Go.Proofs.YtihobnheficpjaaGreatDoor
