/- Plain facts: the table of counts, user by user. Conditions: none. · Words for memory that all walks of this seat share: a slice in memory of the program's own, frames, a bytes reader. Conditions: none. · Words for memory: nodes, slices of nodes. Conditions: none. -/
import Derived.Test.YtihobnheficpjaaGreatDoorM04
import Derived.Test.YtihobnheficpjaaGreatDoorProg
import Derived.WalkKit
import Derived.WalkSpells
import Derived.WalkLawsBesides
import Derived.Lib.Hide
import Derived.Deep.QuietTactic
import Derived.BigQuiet
import Derived.Test.YtihobnheficpjaaGreatDoorM01
namespace Go.Proofs.YtihobnheficpjaaGreatDoor
/-- How many of what node i needs come ahead of node k. -/
def tabTo (plan : List Node) (k : Nat) (i : Nat) : Int := ((needsOf plan i).countP (fun f : Nat => decide (f < k)) : Nat)
/-- .. and the first t users of node k. -/
def tabMid (plan : List Node) (k t : Nat) (i : Nat) : Int := tabTo plan k i + if i ∈ (usersOf plan k).take t then 1 else 0
def putN (f : Nat → Int) (u : Nat) (x : Int) : Nat → Int := fun i => if i = u then x else f i
theorem tabTo_zero (plan : List Node) : tabTo plan 0 = fun _ => 0 := by
  funext i
  unfold tabTo
  rw [List.countP_eq_zero.2 (by simp)]
  rfl
theorem tabMid_zero (plan : List Node) (k : Nat) : tabMid plan k 0 = tabTo plan k := by
  funext i
  unfold tabMid
  simp
theorem countP_succ_mem {l : List Nat} (hn : l.Nodup) (k : Nat) : l.countP (fun f => decide (f < k + 1)) = l.countP (fun f => decide (f < k)) + if k ∈ l then 1 else 0 := by
  induction l with
  | nil => simp
  | cons a r ih =>
    obtain ⟨h1, h2⟩ := List.nodup_cons.1 hn
    have ih := ih h2
    rw [List.countP_cons, List.countP_cons, ih]
    by_cases e : a = k
    · subst e
      rw [if_neg h1]
      simp
    · have hm : (k ∈ a :: r) ↔ k ∈ r := ⟨fun h => by rcases List.mem_cons.1 h with h | h; exact absurd h.symm e; exact h, List.mem_cons_of_mem _⟩
      have hd : decide (a < k + 1) = decide (a < k) := by rw [decide_eq_decide]; omega
      simp only [hm, hd]
      omega
theorem tabMid_all {plan : List Node} {k t : Nat} (hv : planValid plan = true) (ht : (usersOf plan k).length ≤ t) : tabMid plan k t = tabTo plan (k + 1) := by
  funext i
  unfold tabMid tabTo
  rw [List.take_of_length_le ht, countP_succ_mem (needsOf_nodup plan i)]
  by_cases h : k ∈ needsOf plan i
  · have hi : i < plan.length := by
      have := frmAt_mem hv ((mem_needs hv).1 h)
      exact this.2.2
    rw [if_pos (mem_usersOf.2 ⟨hi, h⟩), if_pos h]
    omega
  · rw [if_neg (fun e => h (mem_usersOf.1 e).2), if_neg h]
    omega
theorem tabMid_succ {plan : List Node} {k t u : Nat} (hu : (usersOf plan k)[t]? = some u) : tabMid plan k (t + 1) = putN (tabMid plan k t) u (tabMid plan k t u + 1) := by
  obtain ⟨ht, rfl⟩ := List.getElem?_eq_some_iff.1 hu
  funext i
  have hno : (usersOf plan k)[t] ∉ (usersOf plan k).take t := by
    intro h
    obtain ⟨j, hj, e⟩ := List.mem_take_iff_getElem.1 h
    have := (List.getElem_inj (usersOf_nodup plan k)).1 e
    omega
  unfold putN tabMid
  rw [List.take_succ_eq_append_getElem ht]
  by_cases e : i = (usersOf plan k)[t]
  · rw [if_pos e, if_pos (by rw [e]; exact List.mem_append_right _ (List.mem_singleton.2 rfl)), if_neg hno, e]
    omega
  · rw [if_neg e]
    have : (i ∈ (usersOf plan k).take t ++ [(usersOf plan k)[t]]) ↔ i ∈ (usersOf plan k).take t := by rw [List.mem_append, List.mem_singleton, or_iff_left e]
    simp only [this]
theorem tabMid_in {plan : List Node} (hv : planValid plan = true) (k t i : Nat) : 0 ≤ tabMid plan k t i ∧ tabMid plan k t i ≤ 3 := by
  have h2 : (needsOf plan i).length ≤ 2 := by
    rw [needsOf_frm]
    refine Nat.le_trans (dedup_len _) ?_
    by_cases hi : i < plan.length
    · rw [frmAt_get (List.getElem?_eq_getElem hi)]
      exact (planValid_node hv (List.getElem?_eq_getElem hi)).2.1
    · rw [frmAt_out (by omega)]
      simp
  have h3 : (needsOf plan i).countP (fun f : Nat => decide (f < k)) ≤ (needsOf plan i).length := List.countP_le_length
  unfold tabMid tabTo
  split <;> omega
/-- The whole table. -/
theorem tabTo_all {plan : List Node} (hv : planValid plan = true) (i : Nat) : tabTo plan plan.length i = ((needsOf plan i).length : Int) := by
  unfold tabTo
  rw [List.countP_eq_length.2]
  intro f hf
  have := frmAt_mem hv ((mem_needs hv).1 hf)
  simp only [decide_eq_true_eq]
  omega
theorem tab_counts {plan : List Node} (hv : planValid plan = true) : (List.range plan.length).map (tabTo plan plan.length) = countsOf plan := by
  unfold countsOf
  apply List.map_congr_left
  intro i _
  exact tabTo_all hv i
/-- Counts laid over the table. -/
def laidN (f : Nat → Int) (cs : List Int) : Nat → Int := fun i => cs.getD i (f i)
theorem laidN_get {f : Nat → Int} {cs : List Int} {i : Nat} {c : Int} (h : cs[i]? = some c) : laidN f cs i = c := by
  unfold laidN
  rw [List.getD_eq_getElem?_getD, h]
  rfl
/-! Taking one from each of some counts. -/
def takenTo (f : Nat → Int) (us : List Nat) (t : Nat) : Nat → Int := fun i => f i - if i ∈ us.take t then 1 else 0
def zeroed (f : Nat → Int) (us : List Nat) (t : Nat) : List Int := ((us.take t).filter (fun u => decide (f u = 1))).map (fun u : Nat => (u : Int))
theorem takenTo_zero (f : Nat → Int) (us : List Nat) : takenTo f us 0 = f := by
  funext i
  unfold takenTo
  simp
theorem not_mem_take {us : List Nat} (hn : us.Nodup) {t u : Nat} (hu : us[t]? = some u) : u ∉ us.take t := by
  obtain ⟨ht, rfl⟩ := List.getElem?_eq_some_iff.1 hu
  intro h
  obtain ⟨j, hj, e⟩ := List.mem_take_iff_getElem.1 h
  have := (List.getElem_inj hn).1 e
  omega
theorem takenTo_at {f : Nat → Int} {us : List Nat} (hn : us.Nodup) {t u : Nat} (hu : us[t]? = some u) : takenTo f us t u = f u := by
  unfold takenTo
  rw [if_neg (not_mem_take hn hu)]
  omega
theorem takenTo_succ {f : Nat → Int} {us : List Nat} (hn : us.Nodup) {t u : Nat} (hu : us[t]? = some u) : takenTo f us (t + 1) = putN (takenTo f us t) u (f u - 1) := by
  have hno := not_mem_take hn hu
  obtain ⟨ht, rfl⟩ := List.getElem?_eq_some_iff.1 hu
  funext i
  unfold putN takenTo
  rw [List.take_succ_eq_append_getElem ht]
  by_cases e : i = us[t]
  · rw [if_pos e, if_pos (by rw [e]; exact List.mem_append_right _ (List.mem_singleton.2 rfl)), e]
  · rw [if_neg e]
    have : (i ∈ us.take t ++ [us[t]]) ↔ i ∈ us.take t := by rw [List.mem_append, List.mem_singleton, or_iff_left e]
    simp only [this]
theorem zeroed_succ {f : Nat → Int} {us : List Nat} {t u : Nat} (hu : us[t]? = some u) : zeroed f us (t + 1) = zeroed f us t ++ (if f u = 1 then [(u : Int)] else []) := by
  obtain ⟨ht, rfl⟩ := List.getElem?_eq_some_iff.1 hu
  unfold zeroed
  rw [List.take_succ_eq_append_getElem ht, List.filter_append, List.map_append]
  by_cases h : f us[t] = 1
  · simp [h]
  · simp [h]
theorem zeroed_len (f : Nat → Int) (us : List Nat) (t : Nat) : (zeroed f us t).length ≤ t := by
  unfold zeroed
  rw [List.length_map]
  refine Nat.le_trans (List.length_filter_le _ _) ?_
  rw [List.length_take]
  exact Nat.min_le_left _ _
/-! .. is what CountsDone tells. -/
theorem users_has {plan : List Node} (hv : planValid plan = true) {i x : Nat} : i ∈ usersOf plan x ↔ i < plan.length ∧ has plan i (x : Int) = true := by
  rw [mem_usersOf]
  unfold has
  rw [decide_eq_true_eq, mem_needs hv]
theorem taken_counts {plan : List Node} (hv : planValid plan = true) {cs : List Int} (hl : cs.length = plan.length) (f : Nat → Int) (x t : Nat) (ht : (usersOf plan x).length ≤ t) :
    (List.range plan.length).map (takenTo (laidN f cs) (usersOf plan x) t) = takeCounts plan cs (x : Int) := by
  apply List.ext_getElem?
  intro i
  by_cases hi : i < plan.length
  · have hg : cs[i]? = some cs[i] := List.getElem?_eq_getElem (by omega)
    rw [takeCounts_get hg, List.getElem?_map, List.getElem?_range hi]
    show some _ = _
    congr 1
    unfold takenTo
    rw [List.take_of_length_le ht, laidN_get hg]
    by_cases h : has plan i (x : Int) = true
    · rw [if_pos ((users_has hv).2 ⟨hi, h⟩), if_pos h]
    · rw [if_neg (fun e => h ((users_has hv).1 e).2), if_neg h]
      omega
  · rw [List.getElem?_eq_none (by simp; omega), List.getElem?_eq_none (by rw [takeCounts_len]; omega)]
theorem zeroed_ready {plan : List Node} (hv : planValid plan = true) {cs : List Int} (hl : cs.length = plan.length) (f : Nat → Int) (x t : Nat) (ht : (usersOf plan x).length ≤ t) :
    zeroed (laidN f cs) (usersOf plan x) t = newReady plan cs (x : Int) := by
  unfold zeroed newReady usersOf
  rw [List.take_of_length_le (by unfold usersOf at ht; exact ht), List.filter_filter]
  congr 1
  apply List.filter_congr
  intro i hi
  have hi := List.mem_range.1 hi
  have hg : cs[i]? = some cs[i] := List.getElem?_eq_getElem (by omega)
  have e1 : laidN f cs i = cs.getD i 0 := by rw [laidN_get hg, List.getD_eq_getElem?_getD, hg]; rfl
  have e2 : decide (x ∈ needsOf plan i) = has plan i (x : Int) := by
    unfold has
    rw [decide_eq_decide]
    exact mem_needs hv
  rw [e1, e2, Bool.and_comm]
/-- A user that has no count left stops it. -/
theorem countsFit_zero {plan : List Node} (hv : planValid plan = true) {cs : List Int} {x t u : Nat} (hu : (usersOf plan x)[t]? = some u) (hz : cs.getD u 0 = 0) : countsFit plan cs (x : Int) = false := by
  have hm := (users_has hv).1 (List.mem_of_getElem? hu)
  unfold countsFit
  rw [List.all_eq_false]
  refine ⟨u, List.mem_range.2 hm.1, ?_⟩
  rw [hm.2, hz]
  simp
theorem countsFit_range {plan : List Node} {cs : List Int} {x : Int} {i : Nat} {c : Int} (hi : i < plan.length) (hc : cs[i]? = some c) (h : ¬ (0 ≤ c ∧ c ≤ ((needsOf plan i).length : Int))) : countsFit plan cs x = false := by
  unfold countsFit
  rw [List.all_eq_false]
  refine ⟨i, List.mem_range.2 hi, ?_⟩
  rw [List.getD_eq_getElem?_getD, hc]
  simp only [Option.getD_some, Bool.and_eq_true, decide_eq_true_eq]
  exact fun e => h e.1
theorem countsFit_all {plan : List Node} (hv : planValid plan = true) {cs : List Int} (hl : cs.length = plan.length) {x : Nat} (h1 : ∀ i c, cs[i]? = some c → 0 ≤ c ∧ c ≤ ((needsOf plan i).length : Int)) (h2 : ∀ u ∈ usersOf plan x, cs.getD u 0 ≠ 0) : countsFit plan cs (x : Int) = true := by
  unfold countsFit
  rw [List.all_eq_true]
  intro i hi
  have hi := List.mem_range.1 hi
  have hg : cs[i]? = some cs[i] := List.getElem?_eq_getElem (by omega)
  have hd : cs.getD i 0 = cs[i] := by rw [List.getD_eq_getElem?_getD, hg]; rfl
  have h3 := h1 i _ hg
  rw [hd, decide_eq_true h3.1, decide_eq_true h3.2]
  by_cases h : has plan i (x : Int) = true
  · have := h2 i ((users_has hv).2 ⟨hi, h⟩)
    rw [hd] at this
    simp [this]
  · simp [h]
end Go.Proofs.YtihobnheficpjaaGreatDoor
namespace Go.Proofs.YtihobnheficpjaaGreatDoor
open Go.RowKit

theorem block_add (a : Addr) (n : Nat) : (a.add n).block = a.block := by unfold Addr.add; split <;> rfl

/-! Frames: 'w.grownBy w' row': only block 'row' and new blocks may have turned. -/
section
variable {a b c w w' : World} {row : Option Nat}
theorem gb_refl (w : World) (row : Option Nat) : w.grownBy w row := ⟨rfl, rfl, rfl, Nat.le_refl _, fun _ _ _ => rfl⟩
theorem gb_trans (h : a.grownBy b row) (k : b.grownBy c row) : a.grownBy c row :=
  ⟨k.os.trans h.os, k.tape.trans h.tape, k.output.trans h.output, Nat.le_trans h.size k.size, fun i hi hr => (k.block i (Nat.lt_of_lt_of_le hi h.size) hr).trans (h.block i hi hr)⟩
theorem gb_new {row' : Option Nat} (h : a.grownBy b row) (k : b.grownBy c row') (hg : ∀ g, row' = some g → a.heap.size ≤ g ∨ row = some g) : a.grownBy c row :=
  ⟨k.os.trans h.os, k.tape.trans h.tape, k.output.trans h.output, Nat.le_trans h.size k.size, fun i hi hr => (k.block i (Nat.lt_of_lt_of_le hi h.size) (fun e => by
    rcases hg i e.symm with h1 | h1
    · omega
    · exact hr h1.symm)).trans (h.block i hi hr)⟩
theorem gb_none (h : a.grownBy b row) (k : b.grownBy c none) : a.grownBy c row := gb_new h k (fun _ e => by cases e)
theorem gb_some (h : a.grownBy b none) (row : Option Nat) : a.grownBy b row := ⟨h.os, h.tape, h.output, h.size, fun i hi _ => h.block i hi (by simp)⟩
theorem gb_drew (h : a.grownBy w row) : a.grownBy w.drew row := ⟨h.os, h.tape, h.output, h.size, h.block⟩
theorem gb_drewN (h : a.grownBy w row) (n : Nat) : a.grownBy (w.drewN n) row := ⟨h.os, h.tape, h.output, h.size, h.block⟩
theorem gb_alloc (h : a.grownBy w row) (o : Obj) : a.grownBy (w.alloc o) row :=
  gb_new h (World.grownBy_alloc w o none) (fun _ e => by cases e)
theorem gb_set (h : a.grownBy w row) {p : Addr} (hp : a.heap.size ≤ p.block ∨ row = some p.block) (u : Value) : a.grownBy (w.setCell p u) row :=
  gb_new (row' := some p.block) h ⟨rfl, rfl, rfl, by simp [World.setCell], fun i _ hne => Below.heap_setCell w p u i (fun e => hne (by rw [e]))⟩ (fun g e => by cases e; exact hp)
theorem gb_below (h : a.grownBy w none) : Below a.heap.size a w := ⟨h.os, h.tape, h.output, h.size, fun i hi => h.block i hi (by simp)⟩
theorem gb_of_below (h : Below a.heap.size a w) (row : Option Nat) : a.grownBy w row := ⟨h.os, h.tape, h.output, h.size, fun i hi _ => h.block i hi⟩
theorem gb_of_base {base : Nat} (h : a.grownBy w row) (hr : ∀ g, row = some g → base ≤ g) (hb : base ≤ a.heap.size := by omega) : Below base a w := ⟨h.os, h.tape, h.output, h.size, fun i hi => h.block i (by omega) (fun e => by have := hr i e.symm; omega)⟩
theorem gb_cell (h : a.grownBy w row) {p : Addr} (hp : p.block < a.heap.size) (hne : row ≠ some p.block) : w.cell? p = a.cell? p := World.cell?_of_block (h.block p.block hp (fun e => hne e.symm))
end
theorem gb_set3 (w : World) (g : Nat) (u v x : Value) : w.grownBy (((w.setCell ⟨g, 0, none⟩ u).setCell ⟨g, 1, none⟩ v).setCell ⟨g, 2, none⟩ x) (some g) :=
  gb_set (gb_set (gb_set (gb_refl w (some g)) (.inr rfl) u) (.inr rfl) v) (.inr rfl) x

/-- Block g holds just the cells cs, of element type t, none frozen. -/
def Blk (w : World) (g : Nat) (t : TypeId) (cs : Array Value) : Prop := w.heap[g]? = some (.cells cs t (0, 0))
section
variable {w w' : World} {g : Nat} {t : TypeId} {cs : Array Value}
theorem Blk.lt (h : Blk w g t cs) : g < w.heap.size := (Array.getElem?_eq_some_iff.1 h).1
theorem Blk.cell (h : Blk w g t cs) (i : Nat) : w.cell? ⟨g, i, none⟩ = cs[i]? := cell_of_row w g i cs t (0, 0) h
theorem Blk.frozen (h : Blk w g t cs) (i : Nat) : w.frozen? ⟨g, i, none⟩ = false := frozen_of_row w g i cs t h
theorem Blk.new (w : World) (t : TypeId) (cs : Array Value) : Blk (w.alloc (.cells cs t)) w.heap.size t cs := heap_alloc_new w _
theorem Blk.drew (h : Blk w g t cs) : Blk w.drew g t cs := h
theorem Blk.drewN (h : Blk w g t cs) (n : Nat) : Blk (w.drewN n) g t cs := h
theorem Blk.alloc (h : Blk w g t cs) (o : Obj) : Blk (w.alloc o) g t cs := (Below.heap_alloc w o g h.lt).trans h
theorem Blk.set_ (h : Blk w g t cs) (i : Nat) (u : Value) : Blk (w.setCell ⟨g, i, none⟩ u) g t (cs.setIfInBounds i u) := heap_setCell_same w g i cs t u h
theorem Blk.far (h : Blk w g t cs) {p : Addr} (hp : g ≠ p.block) (u : Value) : Blk (w.setCell p u) g t cs := (Below.heap_setCell w p u g hp).trans h
theorem Blk.grown {row : Option Nat} (h : Blk w g t cs) (hb : w.grownBy w' row) (hg : some g ≠ row) : Blk w' g t cs := (hb.block g h.lt hg).trans h
theorem Blk.ne_ {g' : Nat} {t' : TypeId} {cs' : Array Value} (h : Blk w g t cs) (k : Blk w g' t' cs') (ht : t ≠ t') : g ≠ g' := by
  rintro rfl
  unfold Blk at h k
  rw [h] at k
  injection k with k
  injection k with _ k
  exact ht k
end

/-- The row that may have turned is no block of element type E. -/
def NotE (w : World) (E : TypeId) (row : Option Nat) : Prop := ∀ g, row = some g → ∀ cur, ¬ Blk w g E cur
theorem NotE.none (w : World) (E : TypeId) : NotE w E none := fun _ e => by cases e
theorem NotE.blk {w : World} {E E' : TypeId} {g : Nat} {cs : Array Value} (h : Blk w g E' cs) (hne : E ≠ E') : NotE w E (some g) := fun g' e cur hc => by
  cases e
  exact hc.ne_ h hne rfl
theorem NotE.new {w : World} {E : TypeId} {g : Nat} (h : w.heap.size ≤ g) : NotE w E (some g) := fun g' e cur hc => by
  cases e
  have := hc.lt
  omega
theorem NotE.own {w : World} {E E' : TypeId} {base size n : Nat} {v : Value} {xs : List Value} (h : w.ownsRow base E' size v n xs) (hne : E ≠ E') : NotE w E v.ownBlock := by
  rcases h.2 with ⟨rfl, _⟩ | ⟨g, cap, cur, rfl, _, hg, _⟩
  · exact NotE.none w E
  · exact NotE.blk (cs := cur) hg hne

/-- TYPED SLICE: the value v is a slice of n elements of type E ('size' cells each) whose cells are xs, in a block of the program's own make. -/
def TS (w : World) (E : TypeId) (size : Nat) (v : Value) (n : Nat) (xs : List Value) : Prop :=
  xs.length = n * size ∧ ∃ A c, v = .slice A n c ∧ n ≤ c ∧ c ≤ maxLen ∧ (A = none → c = 0) ∧
    (n = 0 ∨ ∃ g o cur, A = some ⟨g, o, none⟩ ∧ Blk w g E cur ∧ ∀ j u, xs[j]? = some u → cur[o + j]? = some u)
section
variable {w w' : World} {E : TypeId} {size n : Nat} {v : Value} {xs : List Value}
theorem TS.form (h : TS w E size v n xs) : ∃ A c, v = .slice A n c ∧ n ≤ c ∧ c ≤ maxLen ∧ (A = none → c = 0) :=
  let ⟨_, A, c, h1, h2, h3, h4, _⟩ := h; ⟨A, c, h1, h2, h3, h4⟩
theorem TS.le (h : TS w E size v n xs) : n ≤ 9223372036854775807 := by
  obtain ⟨A, c, _, h2, h3, _⟩ := h.form
  unfold maxLen at h3
  omega
theorem TS.nil (w : World) (E : TypeId) (size : Nat) : TS w E size (.slice none 0 0) 0 [] := ⟨by simp, none, 0, rfl, by simp, by simp, by simp, .inl rfl⟩
theorem TS.at_ {A : Option Addr} {c : Nat} (h : TS w E size (.slice A n c) n xs) (hn : 0 < n) :
    ∃ g o cur, A = some ⟨g, o, none⟩ ∧ Blk w g E cur ∧ ∀ j u, xs[j]? = some u → w.cell? ⟨g, o + j, none⟩ = some u := by
  obtain ⟨_, A', c', h1, _, _, _, h5⟩ := h
  injection h1 with h1 _ _
  subst h1
  rcases h5 with h5 | ⟨g, o, cur, rfl, hb, hc⟩
  · omega
  · exact ⟨g, o, cur, rfl, hb, fun j u hu => (hb.cell _).trans (hc j u hu)⟩
theorem TS.grown {row : Option Nat} (h : TS w E size v n xs) (hg : w.grownBy w' row) (hr : NotE w E row) : TS w' E size v n xs := by
  obtain ⟨h0, A, c, h1, h2, h3, h4, h5⟩ := h
  refine ⟨h0, A, c, h1, h2, h3, h4, ?_⟩
  rcases h5 with h5 | ⟨g, o, cur, hA, hb, hc⟩
  · exact .inl h5
  · exact .inr ⟨g, o, cur, hA, hb.grown hg (fun e => hr g e.symm cur hb), hc⟩
theorem TS.new (h : TS w E size v n xs) (hg : w.grownBy w' none) : TS w' E size v n xs := h.grown hg (NotE.none _ _)
theorem TS.drew (h : TS w E size v n xs) : TS w.drew E size v n xs := h
theorem TS.drewN (h : TS w E size v n xs) (k : Nat) : TS (w.drewN k) E size v n xs := h
theorem TS.alloc (h : TS w E size v n xs) (o : Obj) : TS (w.alloc o) E size v n xs := h.new (World.grownBy_alloc w o none)
theorem TS.set_far {g : Nat} {E' : TypeId} {cs : Array Value} (h : TS w E size v n xs) (hb : Blk w g E' cs) (hne : E ≠ E') (i : Nat) (u : Value) : TS (w.setCell ⟨g, i, none⟩ u) E size v n xs :=
  h.grown (gb_set (gb_refl w (some g)) (.inr rfl) u) (NotE.blk hb hne)
theorem TS.of_own {base : Nat} (h : w.ownsRow base E size v n xs) : TS w E size v n xs := by
  refine ⟨h.1, ?_⟩
  rcases h.2 with ⟨rfl, rfl⟩ | ⟨g, cap, cur, rfl, _, hg, hn, hcm, _, ht⟩
  · exact ⟨none, 0, rfl, by simp, by simp, by simp, .inl rfl⟩
  · refine ⟨some ⟨g, 0, none⟩, cap, rfl, hn, hcm, by simp, .inr ⟨g, 0, cur, rfl, hg, fun j u hu => ?_⟩⟩
    rw [← ht, List.getElem?_take] at hu
    split at hu
    · simpa using hu
    · cases hu
end

/-- Integers. -/
def RI (w : World) (v : Value) (l : List Int) : Prop := TS w 3 1 v l.length (l.map (.int .i64))
section
variable {w w' : World} {v : Value} {l : List Int}
theorem RI.at_ {A : Option Addr} {n c k : Nat} (h : RI w (.slice A n c) l) (hk : k < n) : ∃ g o x, A = some ⟨g, o, none⟩ ∧ l[k]? = some x ∧ w.cell? ⟨g, o + k, none⟩ = some (.int .i64 x) := by
  have hn : n = l.length := by
    obtain ⟨A', c', h1, _⟩ := h.form
    injection h1
  subst hn
  obtain ⟨g, o, cur, rfl, _, hc⟩ := TS.at_ h (by omega)
  refine ⟨g, o, l[k], rfl, List.getElem?_eq_getElem hk, hc k _ ?_⟩
  simp [hk]
theorem RI.len {A : Option Addr} {n c : Nat} (h : RI w (.slice A n c) l) : n = l.length := by
  obtain ⟨A', c', h1, _⟩ := h.form
  injection h1
theorem RI.val (h : RI w v l) : ∃ A n c, v = .slice A n c := by
  obtain ⟨A, c, h1, h2, _⟩ := h.form
  exact ⟨A, _, c, h1⟩
theorem RI.form' (h : RI w v l) : ∃ A n c, v = .slice A n c ∧ n ≤ c ∧ n = l.length := by
  obtain ⟨A, c, h1, h2, _⟩ := h.form
  exact ⟨A, _, c, h1, h2, rfl⟩
end

/-- 'append(out, x)' of ONE element that has just been laid in a block of its own: out is nil or the call's own. -/
theorem wp_push {P : Program} {ops : Array Oper} {rest : List Oper} {o : Oper} {a : Act} {Q : Exit → Act → World → Prop} {w : World} {cs : Array Value} {E : TypeId}
    (s x : Operand) (t : TypeId) (z : Value) (size bytes : Nat) (ht : P.underlying t = some (.slice E)) (hinf : (P.info? E).map (fun i => (i.zero, i.size, i.bytes)) = some (some z, size, bytes))
    (hzs : z.cells.size = size) (hsz : 0 < size) (hby : bytes ≤ 128) (hgd : o.guard = none)
    (ho : o.op = .call { callee := .builtin .append, args := #[s, x], argTypes := #[t, t] })
    {base : Nat} {v : Value} {n : Nat} {xs : List Value} (hown : w.ownsRow base E size v n xs) (hn : n ≤ 1000000000) (hbase : base ≤ w.heap.size)
    (hcs : cs.size = size) (h1 : ∀ u ∈ cs.toList, u.oneCell' = true) (hs : a.eval s = v) (hx : a.eval x = .slice (some ⟨w.heap.size, 0, none⟩) 1 1)
    (h : ∀ v' w', w'.ownsRow base E size v' (n + 1) (xs ++ cs.toList) → w.grownBy w' v.ownBlock → v' ≠ .slice none 0 0 → wpList P ops Q rest (a.put o.dst v') w') :
    wpList P ops Q (o :: rest) a (w.alloc (.cells cs E)) := by
  obtain ⟨i, hi, hz0, hz1, hz2⟩ := info_parts hinf
  refine wpList_append_own _ hgd s x t ho base E i z size bytes ht hi hz0 hz1 hz2 hzs hsz v n xs hs (hown.alloc _) ⟨w.heap.size, 0, none⟩ 1 1 cs.toList hx (by simpa using hcs) ?_ h1 ?_ ?_ ?_ ?_
  · intro j u hj
    have hadd : (⟨w.heap.size, 0, none⟩ : Addr).add j = ⟨w.heap.size, j, none⟩ := by unfold Addr.add; split <;> simp_all
    rw [hadd, World.cell?_alloc_new]
    simpa using hj
  · unfold maxLen; omega
  · calc (n + 1) * bytes ≤ (n + 1) * 128 := Nat.mul_le_mul_left _ hby
      _ ≤ 140737488355328 := by omega
  · simp; omega
  · intro v' w' ho' hg hnil
    refine h v' w' ho' ?_ ?_
    · exact ⟨hg.os, hg.tape, hg.output, Nat.le_trans (by simp) hg.size, fun k hk hne => (hg.block k (by simp; omega) hne).trans (Below.heap_alloc w _ k hk)⟩
    · intro e
      have := (hnil.1 e).2
      omega
theorem own_grown {w w' : World} {base : Nat} {E : TypeId} {size n : Nat} {v : Value} {xs : List Value} {row : Option Nat} (h : w.ownsRow base E size v n xs) (hg : w.grownBy w' row) (hr : NotE w E row) : w'.ownsRow base E size v n xs := by
  refine h.kept hg ?_
  rcases h.2 with ⟨rfl, _⟩ | ⟨g, cap, cur, rfl, _, hh, _⟩
  · exact .inl rfl
  · right
    intro e
    exact hr g (e.symm.trans rfl) cur hh
/-- '[]T{}': a row of the call's own without elements. -/
theorem own_empty {w : World} {base : Nat} {E : TypeId} {size : Nat} (hb : base ≤ w.heap.size) : (w.alloc (.cells #[] E)).ownsRow base E size (.slice (some ⟨w.heap.size, 0, none⟩) 0 0) 0 [] :=
  World.ownsRow_made w #[] 0 hb (by unfold maxLen; omega) (by simp)
theorem info3 : (Tryz.prog.info? 3).map (fun i => (i.zero, i.size, i.bytes)) = some (some (.int .i64 0), 1, 8) := by kernel_rfl
/-- A row of integers of the call's own, from block 'base' on. -/
def OwnI (w : World) (base : Nat) (v : Value) (l : List Int) : Prop := w.ownsRow base 3 1 v l.length (l.map (.int .i64))
section
variable {w w' : World} {base : Nat} {v : Value} {l : List Int}
theorem OwnI.grown {row : Option Nat} (h : OwnI w base v l) (hg : w.grownBy w' row) (hr : NotE w 3 row) : OwnI w' base v l := own_grown h hg hr
theorem OwnI.new (h : OwnI w base v l) (hg : w.grownBy w' none) : OwnI w' base v l := own_grown h hg (NotE.none _ _)
theorem OwnI.alloc (h : OwnI w base v l) (o : Obj) : OwnI (w.alloc o) base v l := h.new (World.grownBy_alloc w o none)
theorem OwnI.ri (h : OwnI w base v l) : RI w v l := TS.of_own h
theorem OwnI.notE {E : TypeId} (h : OwnI w base v l) (hE : E ≠ 3) : NotE w E v.ownBlock := NotE.own h hE
theorem OwnI.lt (h : OwnI w base v l) : ∀ g, v.ownBlock = some g → base ≤ g ∧ g < w.heap.size := World.ownsRow.lt h
theorem OwnI.empty (w : World) {base : Nat} (hb : base ≤ w.heap.size) : OwnI (w.alloc (.cells #[] 3)) base (.slice (some ⟨w.heap.size, 0, none⟩) 0 0) [] := own_empty hb
theorem OwnI.nil (w : World) (base : Nat) : OwnI w base (.slice none 0 0) [] := World.ownsRow_nil _ _ _ _
theorem OwnI.form (h : OwnI w base v l) (hl : 0 < l.length) : ∃ g cap cur, v = .slice (some ⟨g, 0, none⟩) l.length cap ∧ l.length ≤ cap ∧ base ≤ g ∧ Blk w g 3 cur ∧ ∀ j x, l[j]? = some x → w.cell? ⟨g, j, none⟩ = some (.int .i64 x) := by
  rcases h.2 with ⟨rfl, h0⟩ | ⟨g, cap, cur, rfl, hb, hh, hn, _, _, ht⟩
  · omega
  · refine ⟨g, cap, cur, rfl, hn, hb, hh, fun j x hx => ?_⟩
    have hc := World.ownsRow.cellAt (g := g) (cap := cap) h j (by have := (List.getElem?_eq_some_iff.1 hx).1; omega)
    rw [hc]
    simp [hx]
theorem OwnI.set_ {g n cap : Nat} (h : OwnI w base (.slice (some ⟨g, 0, none⟩) n cap) l) (hn : n = l.length) (j : Nat) (x : Int) : OwnI (w.setCell ⟨g, j, none⟩ (.int .i64 x)) base (.slice (some ⟨g, 0, none⟩) n cap) (l.set j x) := by
  subst hn
  have k := (World.ownsRow.stored h j (.int .i64 x)).1
  unfold OwnI
  rw [List.length_set, List.map_set]
  exact k
/-- frames: behind an append onto an owned row the world has turned in new blocks alone. -/
theorem OwnI.gb {a : World} {row : Option Nat} (h : OwnI w base v l) (hg : a.grownBy w row) (k : w.grownBy w' v.ownBlock) (hb : a.heap.size ≤ base) : a.grownBy w' row :=
  gb_new hg k (fun g e => .inl (Nat.le_trans hb (h.lt g e).1))
end
/-- .. of one integer. -/
theorem wp_push_int {ops : Array Oper} {rest : List Oper} {o : Oper} {a : Act} {Q : Exit → Act → World → Prop} {w : World} {u : Int}
    (s x : Operand) (hgd : o.guard = none) (ho : o.op = .call { callee := .builtin .append, args := #[s, x], argTypes := #[25, 25] })
    {base : Nat} {v : Value} {l : List Int} (hown : OwnI w base v l) (hn : l.length ≤ 1000000000) (hbase : base ≤ w.heap.size)
    (hs : a.eval s = v) (hx : a.eval x = .slice (some ⟨w.heap.size, 0, none⟩) 1 1)
    (h : ∀ v' w', OwnI w' base v' (l ++ [u]) → w.grownBy w' v.ownBlock → wpList Tryz.prog ops Q rest (a.put o.dst v') w') :
    wpList Tryz.prog ops Q (o :: rest) a (w.alloc (.cells #[.int .i64 u] 3)) :=
  wp_push s x 25 (.int .i64 0) 1 8 Tryz.underlying25 info3 rfl (by decide) (by decide) hgd ho hown hn hbase rfl (by simp [Value.oneCell']) hs hx
    fun v' w' h1 h2 _ => h v' w' (by unfold OwnI; simpa using h1) h2
/-- .. inside a region that draws its order. -/
theorem step_push_int {ops : Array Oper} {o : Oper} {a : Act} {K : Act → World → Prop} {Q : Exit → Act → World → Prop} {E : Prop} {w : World} {u : Int}
    (s x : Operand) (hgd : o.guard = none) (ho : o.op = .call { callee := .builtin .append, args := #[s, x], argTypes := #[25, 25] })
    {base : Nat} {v : Value} {l : List Int} (hown : OwnI w base v l) (hn : l.length ≤ 1000000000) (hbase : base ≤ w.heap.size)
    (hs : a.eval s = v) (hx : a.eval x = .slice (some ⟨w.heap.size, 0, none⟩) 1 1)
    (h : ∀ v' w', OwnI w' base v' (l ++ [u]) → w.grownBy w' v.ownBlock → K (a.put o.dst v') w') :
    if Region.wanted o (yielded ops a.tmps) = true then Oper.wp Tryz.prog o a (w.alloc (.cells #[.int .i64 u] 3)) K Q else E := by
  have hw : Region.wanted o (yielded ops a.tmps) = true := by simp [Region.wanted, hgd]
  rw [if_pos hw]
  obtain ⟨i, hi, hz0, hz1, hz2⟩ := info_parts info3
  refine wp_append_own _ s x 25 ho base 3 i _ 1 8 Tryz.underlying25 hi hz0 hz1 hz2 rfl (by decide) v l.length _ hs (World.ownsRow.alloc hown _) ⟨w.heap.size, 0, none⟩ 1 1 [.int .i64 u] hx rfl ?_ ?_ ?_ ?_ ?_ ?_
  · intro j u' hj
    match j, hj with
    | 0, hj => simp at hj; subst hj; simp [Addr.add]
  · intro u' hu; simp at hu; subst hu; rfl
  · unfold maxLen; omega
  · omega
  · simp; omega
  · intro v' w' ho' hg _
    exact h v' w' (by unfold OwnI; simpa using ho') ⟨hg.os, hg.tape, hg.output, Nat.le_trans (by simp) hg.size, fun k hk hne => (hg.block k (by simp; omega) hne).trans (Below.heap_alloc w _ k hk)⟩
theorem RI.empty {w : World} {v : Value} (h : RI w v []) (w' : World) : RI w' v [] := by
  obtain ⟨h0, A, c, h1, h2, h3, h4, _⟩ := h
  exact ⟨h0, A, c, h1, h2, h3, h4, .inl rfl⟩

/-- Quiet calls inside a region that draws its order (contracts that say 'w = w''). -/
theorem quiet_l {P : Program} {f : FuncId} {args : Array Value} {w : World} {n : Nat} {v : Value}
    (h : Calls P f args (w.drewN n) fun e w' => e = .returned v ∧ w.drewN n = w') : Calls P f args (w.drewN n) fun e w'' => e = .returned v ∧ ∃ m, w'' = w.drewN m :=
  h.mono fun _ _ ⟨he, hm⟩ => ⟨he, n, hm.symm⟩
theorem quiet_la {P : Program} {f : FuncId} {args : Array Value} {w : World} {a n : Nat} {v : Value}
    (h : Calls P f args (w.drewN (a + n)) fun e w' => e = .returned v ∧ w.drewN (a + n) = w') :
    Calls P f args (w.drewN (a + n)) fun e w'' => e = .returned v ∧ ∃ m, w'' = w.drewN (a + m) :=
  h.mono fun _ _ ⟨he, hm⟩ => ⟨he, n, hm.symm⟩
/-- The counter as a number: facts on lists. -/
theorem all_snoc {α : Type} (p : α → Bool) {l : List α} {k : Nat} {x : α} (h : l[k]? = some x) : (l.take (k + 1)).all p = ((l.take k).all p && p x) := by
  obtain ⟨hk, rfl⟩ := List.getElem?_eq_some_iff.1 h
  rw [List.take_succ_eq_append_getElem hk, List.all_append]
  simp
/-- An append onto an owned row leaves it in its block, or in a new one. -/
theorem append_own_block {P : Program} {w : World} {base : Nat} {t ty E : TypeId} {z : Value} {size bytes : Nat} (ht : P.underlying t = some (.slice E)) (hinf : (P.info? E).map (fun i => (i.zero, i.size, i.bytes)) = some (some z, size, bytes))
    (hzs : z.cells.size = size) (hsz : 0 < size) {v : Value} {n : Nat} {xs : List Value} (hown : w.ownsRow base E size v n xs) {ad : Addr} {c : Nat} {news : List Value} (hl : news.length = 1 * size)
    (hnews : ∀ j u, news[j]? = some u → w.cell? (ad.add j) = some u) (h1 : ∀ u ∈ news, u.oneCell' = true) (h63 : n + 1 ≤ maxLen) (hbytes : (n + 1) * bytes ≤ 140737488355328) (hbase : base ≤ w.heap.size) :
    ∃ v' w', (Builtin.append_ #[t, t] ty #[v, .slice (some ad) 1 c]).run P w = .ok v' w' ∧ w'.ownsRow base E size v' (n + 1) (xs ++ news) ∧ w.grownBy w' v.ownBlock ∧ (v'.ownBlock = v.ownBlock ∨ v'.ownBlock = some w.heap.size) := by
  obtain ⟨i, hi, hz0, hz1, hz2⟩ := info_parts hinf
  obtain ⟨v', w', hr, h2, h3, _⟩ := run_append_own (P := P) w base t ty E i z size bytes ht hi hz0 hz1 hz2 hzs hsz v n xs hown ad 1 c news hl hnews h1 h63 hbytes hbase
  refine ⟨v', w', hr, h2, h3, ?_⟩
  have h63' : n + 1 ≤ 9223372036854775807 := by unfold maxLen at h63; omega
  rcases hown.2 with ⟨rfl, rfl⟩ | ⟨g, cap, cur, rfl, hb, hg, hn, hcm, hcs, htk⟩
  · right
    have hr2 := run_append_nil (P := P) w t ty E i z ht hi hz0 ad 1 c news (by rw [hz1]; exact hl) hnews (by omega) (by omega) (by rw [hz2]; omega)
    rw [hr] at hr2
    injection hr2 with hv _
    rw [hv]
    rfl
  · by_cases hroom : n + 1 ≤ cap
    · left
      obtain ⟨w2, hr2, _⟩ := run_append_fits (P := P) w base t ty E i size ht hi hz1 g n cap xs hown ad 1 c news hl hnews h1 hroom
      rw [hr] at hr2
      injection hr2 with hv _
      rw [hv]
      rfl
    · right
      have hr2 := run_append_grow (P := P) w t ty E i z ht hi hz0 ⟨g, 0, none⟩ n cap xs (by rw [hz1]; exact hown.1) (hown.cells (g := g) rfl) ad 1 c news (by rw [hz1]; exact hl) hnews (by omega) (by omega)
        (growslice_fits (by omega) (by rw [hz2]; exact hbytes))
      rw [hr] at hr2
      injection hr2 with hv _
      rw [hv]
      rfl
/-- 'append(out, x)' of one element, and which block the row lies in then. -/
theorem wp_push_fresh {P : Program} {ops : Array Oper} {rest : List Oper} {o : Oper} {a : Act} {Q : Exit → Act → World → Prop} {w : World} {cs : Array Value} {E : TypeId}
    (s x : Operand) (t : TypeId) (z : Value) (size bytes : Nat) (ht : P.underlying t = some (.slice E)) (hinf : (P.info? E).map (fun i => (i.zero, i.size, i.bytes)) = some (some z, size, bytes))
    (hzs : z.cells.size = size) (hsz : 0 < size) (hby : bytes ≤ 128) (hgd : o.guard = none)
    (ho : o.op = .call { callee := .builtin .append, args := #[s, x], argTypes := #[t, t] })
    {base : Nat} {v : Value} {n : Nat} {xs : List Value} (hown : w.ownsRow base E size v n xs) (hn : n ≤ 1000000000) (hbase : base ≤ w.heap.size)
    (hcs : cs.size = size) (h1 : ∀ u ∈ cs.toList, u.oneCell' = true) (hs : a.eval s = v) (hx : a.eval x = .slice (some ⟨w.heap.size, 0, none⟩) 1 1)
    (h : ∀ v' w', w'.ownsRow base E size v' (n + 1) (xs ++ cs.toList) → w.grownBy w' v.ownBlock → (v'.ownBlock = v.ownBlock ∨ v'.ownBlock = some (w.heap.size + 1)) → wpList P ops Q rest (a.put o.dst v') w') :
    wpList P ops Q (o :: rest) a (w.alloc (.cells cs E)) := by
  have hnews : ∀ j u, cs.toList[j]? = some u → (w.alloc (.cells cs E)).cell? ((⟨w.heap.size, 0, none⟩ : Addr).add j) = some u := by
    intro j u hj
    have hadd : (⟨w.heap.size, 0, none⟩ : Addr).add j = ⟨w.heap.size, j, none⟩ := by unfold Addr.add; split <;> simp_all
    rw [hadd, World.cell?_alloc_new]
    simpa using hj
  obtain ⟨v', w', hr, h2, h3, h4⟩ := append_own_block (P := P) (t := t) (ty := o.type) (c := 1) ht hinf hzs hsz (hown.alloc (.cells cs E)) (news := cs.toList) (by simpa using hcs) hnews h1 (by unfold maxLen; omega)
    (by calc (n + 1) * bytes ≤ (n + 1) * 128 := Nat.mul_le_mul_left _ hby
          _ ≤ 140737488355328 := by omega) (by simp; omega)
  refine wpList_plain hgd fun K hK => ?_
  unfold Oper.wp execOp
  simp only [ho, resolve, invoke, builtin, Sem.run_bind, Sem.run_pure, Result.andThen_ok, List.map_toArray, List.map_cons, List.map_nil, hs, hx, hr]
  refine hK _ _ (h v' w' h2 ?_ (by simpa using h4))
  exact ⟨h3.os, h3.tape, h3.output, Nat.le_trans (by simp) h3.size, fun k hk hne => (h3.block k (by simp; omega) hne).trans (Below.heap_alloc w _ k hk)⟩
theorem zipIdx_get {α : Type} {l : List α} {k : Nat} {x : α} (h : l[k]? = some x) : l.zipIdx[k]? = some (x, k) := by simp [h]
end Go.Proofs.YtihobnheficpjaaGreatDoor
namespace Go.Proofs.YtihobnheficpjaaGreatDoor
open Go.RowKit

/-- A node by value. -/
def NV (w : World) (v : Value) (nd : Node) : Prop := ∃ f r, v = .agg #[.int .i64 nd.kind, f, r] ∧ RI w f nd.frm ∧ RI w r nd.row
/-- Three cells at place i of a row are a node's. -/
def NC (w : World) (xs : List Value) (i : Nat) (nd : Node) : Prop :=
  ∃ f r, xs[i * 3]? = some (.int .i64 nd.kind) ∧ xs[i * 3 + 1]? = some f ∧ xs[i * 3 + 2]? = some r ∧ RI w f nd.frm ∧ RI w r nd.row
/-- A slice of nodes. -/
def RN (w : World) (v : Value) (plan : List Node) : Prop := ∃ xs, TS w 94 3 v plan.length xs ∧ ∀ i nd, plan[i]? = some nd → NC w xs i nd
theorem RI.nil (w : World) : RI w (.slice none 0 0) [] := TS.nil _ _ _
/-- A slice literal. -/
theorem RI.lit (w : World) (l : List Int) (hl : l.length ≤ maxLen := by simp [maxLen]) : RI (w.alloc (.cells (l.map (.int .i64)).toArray 3)) (.slice (some ⟨w.heap.size, 0, none⟩) l.length l.length) l :=
  ⟨by simp, _, _, rfl, Nat.le_refl _, hl, by simp, .inr ⟨w.heap.size, 0, _, rfl, Blk.new w _ _, fun j u hu => by simpa using hu⟩⟩
/-- A row of nodes of the call's own. -/
def OwnN (w : World) (base : Nat) (v : Value) (plan : List Node) : Prop := ∃ xs, w.ownsRow base 94 3 v plan.length xs ∧ ∀ i nd, plan[i]? = some nd → NC w xs i nd
section
variable {w w' : World} {v : Value} {nd : Node} {plan : List Node} {base : Nat} {xs : List Value} {row : Option Nat}
theorem RI.grown {l : List Int} (h : RI w v l) (hg : w.grownBy w' row) (hr : NotE w 3 row) : RI w' v l := TS.grown h hg hr
theorem RI.oneCell {l : List Int} (h : RI w v l) : v.oneCell' = true := by
  obtain ⟨A, n, c, rfl, _⟩ := h.form'
  rfl
theorem RI.new {l : List Int} (h : RI w v l) (hg : w.grownBy w' none) : RI w' v l := TS.new h hg
theorem RI.alloc {l : List Int} (h : RI w v l) (o : Obj) : RI (w.alloc o) v l := h.new (World.grownBy_alloc w o none)
theorem NV.grown (h : NV w v nd) (hg : w.grownBy w' row) (hr : NotE w 3 row) : NV w' v nd :=
  let ⟨f, r, h1, h2, h3⟩ := h; ⟨f, r, h1, h2.grown hg hr, h3.grown hg hr⟩
theorem NC.grown {i : Nat} (h : NC w xs i nd) (hg : w.grownBy w' row) (hr : NotE w 3 row) : NC w' xs i nd :=
  let ⟨f, r, h1, h2, h3, h4, h5⟩ := h; ⟨f, r, h1, h2, h3, h4.grown hg hr, h5.grown hg hr⟩
theorem RN.grown (h : RN w v plan) (hg : w.grownBy w' row) (hr : NotE w 3 row) (hr' : NotE w 94 row) : RN w' v plan :=
  let ⟨xs, h1, h2⟩ := h; ⟨xs, h1.grown hg hr', fun i nd hi => (h2 i nd hi).grown hg hr⟩
theorem RN.new (h : RN w v plan) (hg : w.grownBy w' none) : RN w' v plan := h.grown hg (NotE.none _ _) (NotE.none _ _)
theorem RN.alloc (h : RN w v plan) (o : Obj) : RN (w.alloc o) v plan := h.new (World.grownBy_alloc w o none)
theorem OwnN.grown (h : OwnN w base v plan) (hg : w.grownBy w' row) (hr : NotE w 3 row) (hr' : NotE w 94 row) : OwnN w' base v plan :=
  let ⟨xs, h1, h2⟩ := h; ⟨xs, own_grown h1 hg hr', fun i nd hi => (h2 i nd hi).grown hg hr⟩
theorem OwnN.new (h : OwnN w base v plan) (hg : w.grownBy w' none) : OwnN w' base v plan := h.grown hg (NotE.none _ _) (NotE.none _ _)
theorem OwnN.rn (h : OwnN w base v plan) : RN w v plan := let ⟨xs, h1, h2⟩ := h; ⟨xs, TS.of_own h1, h2⟩
theorem OwnN.lt (h : OwnN w base v plan) : ∀ g, v.ownBlock = some g → base ≤ g ∧ g < w.heap.size := let ⟨_, h1, _⟩ := h; World.ownsRow.lt h1
theorem OwnN.notE {E : TypeId} (h : OwnN w base v plan) (hE : E ≠ 94) : NotE w E v.ownBlock := let ⟨_, h1, _⟩ := h; NotE.own h1 hE
theorem OwnN.gb {a : World} (h : OwnN w base v plan) (hg : a.grownBy w row) (k : w.grownBy w' v.ownBlock) (hb : a.heap.size ≤ base) : a.grownBy w' row :=
  gb_new hg k (fun g e => .inl (Nat.le_trans hb (h.lt g e).1))
theorem OwnN.empty (w : World) {base : Nat} (hb : base ≤ w.heap.size) : OwnN (w.alloc (.cells #[] 94)) base (.slice (some ⟨w.heap.size, 0, none⟩) 0 0) [] := ⟨[], own_empty hb, fun i nd h => by simp at h⟩
theorem OwnN.nil (w : World) (base : Nat) : OwnN w base (.slice none 0 0) [] := ⟨[], World.ownsRow_nil _ _ _ _, fun i nd h => by simp at h⟩
theorem RN.len {A : Option Addr} {n c : Nat} (h : RN w (.slice A n c) plan) : n = plan.length := by
  obtain ⟨xs, h, _⟩ := h
  obtain ⟨A', c', h1, _⟩ := h.form
  injection h1
theorem RN.form' (h : RN w v plan) : ∃ A n c, v = .slice A n c ∧ n ≤ c ∧ n = plan.length ∧ n ≤ 9223372036854775807 := by
  obtain ⟨xs, h, _⟩ := h
  have := h.le
  obtain ⟨A, c, h1, h2, _⟩ := h.form
  exact ⟨A, _, c, h1, h2, rfl, this⟩
theorem RN.val (h : RN w v plan) : ∃ A n c, v = .slice A n c := by
  obtain ⟨A, n, c, h1, _⟩ := h.form'
  exact ⟨A, n, c, h1⟩
theorem RN.at_ {A : Option Addr} {n c k : Nat} (h : RN w (.slice A n c) plan) (hk : k < n) :
    ∃ g o nd f r, A = some ⟨g, o, none⟩ ∧ plan[k]? = some nd ∧ w.cell? ⟨g, o + k * 3, none⟩ = some (.int .i64 nd.kind) ∧ w.cell? ⟨g, o + k * 3 + 1, none⟩ = some f ∧ w.cell? ⟨g, o + k * 3 + 2, none⟩ = some r ∧ RI w f nd.frm ∧ RI w r nd.row := by
  have hn := h.len
  subst hn
  obtain ⟨xs, h1, h2⟩ := h
  obtain ⟨g, o, cur, rfl, _, hc⟩ := TS.at_ h1 (by omega)
  obtain ⟨f, r, k1, k2, k3, k4, k5⟩ := h2 k _ (List.getElem?_eq_getElem hk)
  exact ⟨g, o, plan[k], f, r, rfl, List.getElem?_eq_getElem hk, hc _ _ k1, hc _ _ k2, hc _ _ k3, k4, k5⟩
end
theorem info94 : (Tryz.prog.info? 94).map (fun i => (i.zero, i.size, i.bytes)) = some (some (.agg #[.int .i64 0, .slice none 0 0, .slice none 0 0]), 3, 56) := by kernel_rfl
theorem NC.snoc_old {w : World} {xs : List Value} {i : Nat} {nd : Node} {ys : List Value} (h : NC w xs i nd) : NC w (xs ++ ys) i nd := by
  obtain ⟨f, r, h1, h2, h3, h4, h5⟩ := h
  have a := fun {j u} (hj : xs[j]? = some u) => (List.getElem?_append_left (l₂ := ys) (List.getElem?_eq_some_iff.1 hj).1).trans hj
  exact ⟨f, r, a h1, a h2, a h3, h4, h5⟩
theorem NC.snoc_new {w : World} {xs : List Value} {n : Nat} {nd : Node} {f r : Value} (hl : xs.length = n * 3) (h4 : RI w f nd.frm) (h5 : RI w r nd.row) : NC w (xs ++ [.int .i64 nd.kind, f, r]) n nd := by
  refine ⟨f, r, ?_, ?_, ?_, h4, h5⟩
  · rw [List.getElem?_append_right (by omega), show n * 3 - xs.length = 0 by omega]; rfl
  · rw [List.getElem?_append_right (by omega), show n * 3 + 1 - xs.length = 1 by omega]; rfl
  · rw [List.getElem?_append_right (by omega), show n * 3 + 2 - xs.length = 2 by omega]; rfl
/-- 'append(out, x)' of one node. -/
theorem wp_push_node {ops : Array Oper} {rest : List Oper} {o : Oper} {a : Act} {Q : Exit → Act → World → Prop} {w : World} {nd : Node} {f r : Value}
    (s x : Operand) (hgd : o.guard = none) (ho : o.op = .call { callee := .builtin .append, args := #[s, x], argTypes := #[23, 23] })
    {base : Nat} {v : Value} {plan : List Node} (hown : OwnN w base v plan) (hf : RI w f nd.frm) (hr : RI w r nd.row) (hn : plan.length ≤ 1000000000) (hbase : base ≤ w.heap.size)
    (hs : a.eval s = v) (hx : a.eval x = .slice (some ⟨w.heap.size, 0, none⟩) 1 1)
    (h : ∀ v' w', OwnN w' base v' (plan ++ [nd]) → w.grownBy w' v.ownBlock → wpList Tryz.prog ops Q rest (a.put o.dst v') w') :
    wpList Tryz.prog ops Q (o :: rest) a (w.alloc (.cells #[.int .i64 nd.kind, f, r] 94)) := by
  obtain ⟨xs, ho1, ho2⟩ := hown
  refine wp_push s x 23 _ 3 56 Tryz.underlying23 info94 rfl (by decide) (by decide) hgd ho ho1 hn hbase rfl ?_ hs hx ?_
  · intro u hu
    simp only [List.mem_cons, List.not_mem_nil, or_false] at hu
    rcases hu with rfl | rfl | rfl
    · rfl
    · exact hf.oneCell
    · exact hr.oneCell
  intro v' w' h1 h2 _
  refine h v' w' ⟨_, by simpa using h1, ?_⟩ h2
  intro i nd' hi
  have hne : NotE w 3 v.ownBlock := NotE.own ho1 (by decide)
  by_cases hl : i < plan.length
  · rw [List.getElem?_append_left hl] at hi
    exact ((ho2 i nd' hi).snoc_old).grown h2 hne
  · rw [List.getElem?_append_right (by omega)] at hi
    have h0 : i - plan.length = 0 := by
      rcases Nat.eq_zero_or_pos (i - plan.length) with h | h
      · exact h
      · rw [List.getElem?_eq_none (by simp; omega)] at hi
        cases hi
    rw [h0] at hi
    obtain rfl : nd = nd' := by simpa using hi
    obtain rfl : i = plan.length := by omega
    exact NC.snoc_new ho1.1 (hf.grown h2 hne) (hr.grown h2 hne)
theorem OwnN.form {w : World} {base : Nat} {v : Value} {plan : List Node} (h : OwnN w base v plan) {n : Nat} (hn : plan.length = n) (h0 : 0 < n) :
    ∃ g cap cur, v = .slice (some ⟨g, 0, none⟩) n cap ∧ n ≤ cap ∧ base ≤ g ∧ Blk w g 94 cur ∧ ∀ j, j < n * 3 → ∃ u, w.cell? ⟨g, j, none⟩ = some u := by
  subst hn
  obtain ⟨xs, h1, _⟩ := h
  rcases h1.2 with ⟨rfl, hz⟩ | ⟨g, cap, cur, rfl, hb, hh, hn, _, hcs, ht⟩
  · omega
  · refine ⟨g, cap, cur, rfl, hn, hb, hh, fun j hj => ?_⟩
    rw [cell_of_row w g j cur _ _ hh]
    exact ⟨_, Array.getElem?_eq_getElem (by rw [hcs]; omega)⟩
/-- One node of an owned row is written anew. -/
theorem OwnN.set_ {w : World} {base g n cap k : Nat} {plan : List Node} {nd : Node} {f r : Value} (h : OwnN w base (.slice (some ⟨g, 0, none⟩) n cap) plan) (hn : plan.length = n) (hk : k < n) (hf : RI w f nd.frm) (hr : RI w r nd.row) :
    OwnN (((w.setCell ⟨g, k * 3, none⟩ (.int .i64 nd.kind)).setCell ⟨g, k * 3 + 1, none⟩ f).setCell ⟨g, k * 3 + 2, none⟩ r) base (.slice (some ⟨g, 0, none⟩) n cap) (plan.set k nd) := by
  subst hn
  obtain ⟨xs, h1, h2⟩ := h
  have s1 := World.ownsRow.stored h1 (k * 3) (.int .i64 nd.kind)
  have s2 := World.ownsRow.stored s1.1 (k * 3 + 1) f
  have s3 := World.ownsRow.stored s2.1 (k * 3 + 2) r
  have hg : w.grownBy (((w.setCell ⟨g, k * 3, none⟩ (.int .i64 nd.kind)).setCell ⟨g, k * 3 + 1, none⟩ f).setCell ⟨g, k * 3 + 2, none⟩ r) (some g) := gb_trans (gb_trans s1.2 s2.2) s3.2
  have hne : NotE w 3 (some g) := NotE.own (v := .slice (some ⟨g, 0, none⟩) plan.length cap) h1 (by decide)
  have hxl := h1.1
  refine ⟨_, by rw [List.length_set]; exact s3.1, fun i x hi => ?_⟩
  by_cases hik : i = k
  · subst hik
    rw [List.getElem?_set_self hk] at hi
    obtain rfl : nd = x := by simpa using hi
    refine ⟨f, r, ?_, ?_, ?_, hf.grown hg hne, hr.grown hg hne⟩
    · rw [List.getElem?_set_ne (by omega), List.getElem?_set_ne (by omega), List.getElem?_set_self (by omega)]
    · rw [List.getElem?_set_ne (by omega), List.getElem?_set_self (by rw [List.length_set]; omega)]
    · rw [List.getElem?_set_self (by rw [List.length_set, List.length_set]; omega)]
  · rw [List.getElem?_set_ne (fun e => hik e.symm)] at hi
    obtain ⟨f', r', k1, k2, k3, k4, k5⟩ := h2 i x hi
    refine ⟨f', r', ?_, ?_, ?_, k4.grown hg hne, k5.grown hg hne⟩
    all_goals rw [List.getElem?_set_ne (by omega), List.getElem?_set_ne (by omega), List.getElem?_set_ne (by omega)]; assumption
end Go.Proofs.YtihobnheficpjaaGreatDoor
