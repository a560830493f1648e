/- Plain facts on a plan's links: how many there are. Conditions: none. · Walks: impl.isNode, impl.PlanUses. · Walks: impl.countTableOf and the table's methods. -/
import Derived.Test.YtihobnheficpjaaGreatDoorM11
import Derived.Test.YtihobnheficpjaaGreatDoorM09
import Derived.Test.YtihobnheficpjaaGreatDoorM05
import Derived.Test.YtihobnheficpjaaGreatDoorM07
namespace Go.Proofs.YtihobnheficpjaaGreatDoor
open Go.RowKit

/-- How many users the first N nodes have. -/
def ulen (N : Nat) (L : Nat → List Nat) : Nat := ((List.range N).map (fun i => (L (2 * i + 2)).length)).sum
theorem ulen_succ (N : Nat) (L : Nat → List Nat) : ulen (N + 1) L = ulen N L + (L (2 * N + 2)).length := by
  unfold ulen
  rw [List.range_succ, List.map_append, List.sum_append]
  simp
theorem ulen_other {N : Nat} {L L' : Nat → List Nat} (h : ∀ i, i < N → L' (2 * i + 2) = L (2 * i + 2)) : ulen N L' = ulen N L := by
  induction N with
  | zero => rfl
  | succ N ih => rw [ulen_succ, ulen_succ, ih (fun i hi => h i (by omega)), h N (by omega)]
theorem ulen_upd {N f : Nat} {L : Nat → List Nat} {x : List Nat} (hf : f < N) (hx : x.length = (L (2 * f + 2)).length + 1) : ulen N (upd L (2 * f + 2) x) = ulen N L + 1 := by
  induction N with
  | zero => omega
  | succ N ih =>
    rw [ulen_succ, ulen_succ]
    by_cases h : f = N
    · subst h
      rw [upd_same, hx, ulen_other (fun i hi => upd_other _ _ (by omega))]
      omega
    · rw [upd_other _ _ (by omega), ih (by omega)]
      omega
theorem linkL_ulen {N n f : Nat} (L : Nat → List Nat) (hf : f < N) : ulen N (linkL n f L) = ulen N L + (if f ∈ L (2 * n + 1) then 0 else 1) := by
  unfold linkL
  split
  · rfl
  · rw [ulen_upd hf (by rw [List.length_append, upd_other _ _ (by omega)]; rfl), ulen_other (fun i hi => upd_other _ _ (by omega))]
theorem linkL_row {n f a : Nat} (L : Nat → List Nat) (h1 : a ≠ 2 * n + 1) (h2 : a ≠ 2 * f + 2) : linkL n f L a = L a := by
  unfold linkL
  split
  · rfl
  · rw [upd_other _ _ h2, upd_other _ _ h1]
theorem linkAll_row {n a : Nat} {frm : List Int} (L : Nat → List Nat) (hf : ∀ y ∈ frm, 0 ≤ y ∧ y < (n : Int)) (h1 : 2 * n + 1 < a) : linkAll n frm L a = L a := by
  unfold linkAll
  induction frm generalizing L with
  | nil => rfl
  | cons x xs ih =>
    have hx := hf x (by simp)
    rw [List.foldl_cons, ih _ (fun y hy => hf y (by simp [hy])), linkL_row _ (by omega) (by omega)]
/-- Behind step k the rows from 2k+1 on are empty. -/
theorem graphTo_rest {plan : List Node} (hv : planValid plan = true) (k : Nat) : ∀ a, 2 * k + 1 ≤ a → graphTo plan k a = [] := by
  induction k with
  | zero => intro a _; rfl
  | succ k ih =>
    intro a ha
    cases h : plan[k]? with
    | none =>
      have hl : plan.length ≤ k := by simpa using h
      have e : graphTo plan (k + 1) = graphTo plan k := by
        unfold graphTo
        rw [List.take_of_length_le (by simp; omega), List.take_of_length_le (by simp; omega)]
      rw [e]
      exact ih a (by omega)
    | some nd =>
      rw [graphTo_succ h]
      unfold graphStep
      rw [upd_other _ _ (by omega)]
      have hfit := (planValid_node hv h).1
      rw [linkAll_row _ (fun y hy => nodeFits_mem hfit hy) (by omega)]
      exact ih a (by omega)
theorem linkAll_ulen {N n : Nat} {frm : List Int} (L : Nat → List Nat) (hf : ∀ y ∈ frm, 0 ≤ y ∧ y < (n : Int)) (hn : n < N) (hl : frm.length ≤ 2) (h0 : L (2 * n + 1) = []) :
    ulen N L ≤ ulen N (linkAll n frm L) ∧ ulen N (linkAll n frm L) - ulen N L ≤ frm.length ∧ frm.length ≤ 2 * (ulen N (linkAll n frm L) - ulen N L) := by
  match frm, hl with
  | [], _ => simp [linkAll]
  | [x], _ =>
    have hx := hf x (by simp)
    show ulen N L ≤ ulen N (linkL n x.toNat L) ∧ _
    have e := linkL_ulen (n := n) L (show x.toNat < N by omega)
    rw [h0] at e
    simp only [List.not_mem_nil, if_false] at e
    show _ ∧ ulen N (linkL n x.toNat L) - ulen N L ≤ _ ∧ _ ≤ 2 * (ulen N (linkL n x.toNat L) - ulen N L)
    simp only [List.length_cons, List.length_nil]
    omega
  | [x, y], _ =>
    have hx := hf x (by simp)
    have hy := hf y (by simp)
    have e := linkL_ulen (n := n) L (show x.toNat < N by omega)
    have e2 := linkL_ulen (n := n) (linkL n x.toNat L) (show y.toNat < N by omega)
    rw [h0] at e
    simp only [List.not_mem_nil, if_false] at e
    show ulen N L ≤ ulen N (linkL n y.toNat (linkL n x.toNat L)) ∧ ulen N (linkL n y.toNat (linkL n x.toNat L)) - ulen N L ≤ _ ∧ _ ≤ 2 * (ulen N (linkL n y.toNat (linkL n x.toNat L)) - ulen N L)
    simp only [List.length_cons, List.length_nil]
    split at e2 <;> omega
theorem graphTo_ulen {plan : List Node} (hv : planValid plan = true) {k : Nat} (hk : k ≤ plan.length) : (ulen plan.length (graphTo plan k) : Int) ≤ fsum plan k ∧ fsum plan k ≤ 2 * ulen plan.length (graphTo plan k) := by
  induction k with
  | zero =>
    have e : ∀ N, ulen N (fun _ => []) = 0 := by
      intro N
      induction N with
      | zero => rfl
      | succ N ih => rw [ulen_succ, ih]; rfl
    show ((ulen plan.length (fun _ => []) : Nat) : Int) ≤ fsum plan 0 ∧ fsum plan 0 ≤ 2 * (ulen plan.length (fun _ => []) : Nat)
    rw [e]
    simp [fsum]
  | succ k ih =>
    obtain ⟨h1, h2⟩ := ih (by omega)
    obtain ⟨nd, h⟩ : ∃ nd, plan[k]? = some nd := ⟨_, List.getElem?_eq_getElem (by omega)⟩
    have hfit := planValid_node hv h
    have e := linkAll_ulen (N := plan.length) (n := k) (graphTo plan k) (fun y hy => nodeFits_mem hfit.1 hy) (by omega) hfit.2.1 (graphTo_rest hv k _ (by omega))
    rw [graphTo_succ h, fsum_succ h]
    have e2 : ulen plan.length (graphStep (graphTo plan k) (nd, k)) = ulen plan.length (linkAll k nd.frm (graphTo plan k)) := ulen_other (fun i hi => upd_other _ _ (by omega))
    rw [e2]
    omega
theorem graphTo_zero {plan : List Node} {k : Nat} (hk : k ≤ plan.length) : graphTo plan k 0 = List.range k := by
  induction k with
  | zero => rfl
  | succ k ih =>
    obtain ⟨nd, h⟩ : ∃ nd, plan[k]? = some nd := ⟨_, List.getElem?_eq_getElem (by omega)⟩
    rw [graphTo_succ h]
    unfold graphStep
    rw [upd_same, linkAll_zero, ih (by omega), List.range_succ]
end Go.Proofs.YtihobnheficpjaaGreatDoor
namespace Go.Proofs.YtihobnheficpjaaGreatDoor
open Go.RowKit

theorem isNode_b (A : Option Addr) (n c : Nat) (at_ : Int) (w : World) {b : Bool} (hb : (decide (0 ≤ at_) && decide (at_ < n)) = b) :
    Calls Tryz.prog 63 #[.slice A n c, .int .i64 at_] w fun e w' => e = .returned (.bool b) ∧ w = w' := by
  subst hb
  go_enter Tryz.func63, Tryz.ntmps63
  by_cases h0 : 0 ≤ at_
  · by_cases h1 : at_ < n
    · go_wp2_with fail
      go_ret
      exact ⟨by simp; omega, rfl⟩
    · go_wp2_with fail
      go_ret
      exact ⟨by simp; omega, rfl⟩
  · go_wp2_with fail
    go_ret
    exact ⟨by simp; omega, rfl⟩
def UsesPost (w : World) (l : List Int) (e : Ending) (w' : World) : Prop := ∃ v', e = .returned v' ∧ OwnI w' w.heap.size v' l ∧ w.grownBy w' none
set_option maxRecDepth 20000 in
theorem planUses_any (v : Value) (plan : List Node) (at_ : Nat) (w : World) (h : RN w v plan) (hv : planValid plan = true) (hat : at_ < plan.length) :
    Calls Tryz.prog 67 #[v, .int .i64 at_] w (UsesPost w ((graphL plan (2 * at_ + 2)).map (fun j : Nat => (j : Int)))) := by
  obtain ⟨A, n, c, rfl, -, hn, -⟩ := h.form'
  have hn10 : n ≤ 10 := by have := planValid_len hv; omega
  have hat' : at_ < n := by omega
  have Hn := Lib.hid hn
  have Hv := Lib.hid hv
  clear hn hv hat
  go_enter Tryz.func67, Tryz.ntmps67
  go_wp2_with fail
  refine (graphOf_all _ plan _ h).mono ?_
  rintro e w1 ⟨gv, rfl, hg1, hG⟩
  obtain ⟨B, R, G, hR0, hR⟩ := hG Hv.out
  clear hG
  rw [Hv.out]
  have hsz := hg1.size
  have hz : (R 0).2 = List.range n := by rw [hR 0, Hn.out]; exact graphTo_zero (Nat.le_refl _)
  rw [← Hn.out] at G
  obtain ⟨Ag, cg, hgv, -⟩ := G.form (a := 0) (by omega)
  rw [hz, List.length_range] at hgv
  obtain ⟨gg, rfl, c0⟩ := G.at0 hgv hz hat'
  rw [hR0] at hgv
  subst hgv
  obtain ⟨Au, cu, hu, hcu⟩ := G.form (a := 2 * at_ + 2) (by omega)
  have c1 := (G.blk at_ hat').cell 2
  have hm := G.len (2 * at_ + 2)
  have Hl : Hid ((R (2 * at_ + 2)).2 = graphL plan (2 * at_ + 2)) := hR _
  have hu2 : (R (2 * at_ + 2)).1 = .slice Au (R (2 * at_ + 2)).2.length cu := hu
  have c1' : w1.cell? ⟨B at_, 2, none⟩ = some (.slice Au (R (2 * at_ + 2)).2.length cu) := by rw [c1, hu2]; rfl
  have Hu : Hid ((R (2 * at_ + 2)).1 = .slice Au (R (2 * at_ + 2)).2.length cu) := hu
  have Hmem : Hid (∀ j ∈ (R (2 * at_ + 2)).2, j < n) := G.mem (2 * at_ + 2) (by omega)
  clear hu hu2 hcu c1 hR0 hR hz
  generalize hLL : (R (2 * at_ + 2)).2 = LL at *
  have HLL := Lib.hid hLL
  clear hLL
  go_wp2_with fail
  refine (isNode_b A n c at_ _ (b := true) (by simp; omega)).mono ?_
  rintro e w2 ⟨rfl, rfl⟩
  go_wp2_with fail
  go_loopw [7, 31] (fun s i wr => ∃ k : Nat, k ≤ LL.length ∧ i = .int .i64 k ∧ OwnI wr w.heap.size s ((LL.take k).map (fun j : Nat => (j : Int))) ∧ Gr wr w.heap.size n B R ∧ w.grownBy wr none) (fun _ i _ => LL.length - (intOf i).toNat)
  case atStart => exact ⟨0, Nat.zero_le _, rfl, OwnI.nil _ _, G, hg1⟩
  case round =>
    clear G hg1
    obtain ⟨k, hk, rfl, ho, G, hg⟩ := hrel
    by_cases hlt : k < LL.length
    · obtain ⟨Au', cu', hu', hcu'⟩ := G.form (a := 2 * at_ + 2) (by omega)
      obtain rfl : Au = Au' := by rw [Hu.out] at hu'; injection hu'
      rw [HLL.out] at hcu'
      obtain ⟨g, rfl, hcs⟩ := hcu' (by omega)
      obtain ⟨x, hx⟩ : ∃ x, LL[k]? = some x := ⟨_, List.getElem?_eq_getElem hlt⟩
      have hxn := Hmem.out x (List.mem_of_getElem? hx)
      have d0 := hcs k x hx
      have d1 : wr.cell? ⟨B x, 0, none⟩ = some (.int .i64 (x : Nat)) := (G.blk x hxn).cell 0
      have Hx := Lib.hid hx
      have Hcs := Lib.hid hcs
      have hlen : ((LL.take k).map (fun j : Nat => (j : Int))).length ≤ 1000 := by simp; omega
      clear hx hcs hu' hcu'
      go_wp2_with (at_builtin; go_must (refine wp_push_int (.tmp 35) (.tmp 40) rfl rfl ho (by omega) hg.size rfl rfl ?_))
      intro v' w5 hown5 hg5
      obtain ⟨A5, n5, c5, rfl⟩ := hown5.ri.val
      have G5 := G.grown hg5 (ho.notE (by decide)) (ho.notE (by decide))
      have hg6 := ho.gb hg hg5 (Nat.le_refl _)
      have hown6 : OwnI w5 w.heap.size (.slice A5 n5 c5) ((LL.take (k + 1)).map (fun j : Nat => (j : Int))) := by
        obtain ⟨hk', hx'⟩ := List.getElem?_eq_some_iff.1 Hx.out
        rw [List.take_succ_eq_append_getElem hk', List.map_append, hx']
        simpa [List.map_take] using hown5
      go_wp2_with fail
      go_roundw
      case rel => exact ⟨k + 1, by omega, by go_num, hown6, G5, hg6⟩
      case measure => simp [intOf]; omega
    · obtain rfl : k = LL.length := by omega
      rw [List.take_of_length_le (Nat.le_refl _)] at ho
      obtain ⟨A5, n5, c5, rfl⟩ := ho.ri.val
      go_wp2_with fail
      go_ret
      exact ⟨_, rfl, by rw [← Hl.out]; exact ho, hg⟩
end Go.Proofs.YtihobnheficpjaaGreatDoor
namespace Go.Proofs.YtihobnheficpjaaGreatDoor
open Go.RowKit

/-- The table's cells: ten counts and their number. -/
def tabArr (f : Nat → Int) (n : Nat) : Array Value := #[.int .i64 (f 0), .int .i64 (f 1), .int .i64 (f 2), .int .i64 (f 3), .int .i64 (f 4), .int .i64 (f 5), .int .i64 (f 6), .int .i64 (f 7), .int .i64 (f 8), .int .i64 (f 9), .int .i64 n]
/-- The table stands in block tb. -/
def TT (w : World) (tb : Nat) (f : Nat → Int) (n : Nat) : Prop := Blk w tb 133 (tabArr f n)
theorem tabArr_get (f : Nat → Int) (n : Nat) {u : Nat} (hu : u < 10) : (tabArr f n)[u]? = some (.int .i64 (f u)) := by
  rcases (show u = 0 ∨ u = 1 ∨ u = 2 ∨ u = 3 ∨ u = 4 ∨ u = 5 ∨ u = 6 ∨ u = 7 ∨ u = 8 ∨ u = 9 by omega) with rfl | rfl | rfl | rfl | rfl | rfl | rfl | rfl | rfl | rfl <;> rfl
theorem tabArr_put (f : Nat → Int) (n : Nat) {u : Nat} (hu : u < 10) (x : Int) : (tabArr f n).setIfInBounds u (.int .i64 x) = tabArr (putN f u x) n := by
  rcases (show u = 0 ∨ u = 1 ∨ u = 2 ∨ u = 3 ∨ u = 4 ∨ u = 5 ∨ u = 6 ∨ u = 7 ∨ u = 8 ∨ u = 9 by omega) with rfl | rfl | rfl | rfl | rfl | rfl | rfl | rfl | rfl | rfl <;> rfl
section
variable {w w' : World} {tb n : Nat} {f : Nat → Int}
theorem TT.cell (h : TT w tb f n) {u : Nat} (hu : u < 10) : w.cell? ⟨tb, u, none⟩ = some (.int .i64 (f u)) := by
  rw [← tabArr_get f n hu]
  exact Blk.cell h u
theorem TT.size (h : TT w tb f n) : w.cell? ⟨tb, 10, none⟩ = some (.int .i64 n) := Blk.cell h 10
theorem TT.frozen (h : TT w tb f n) (u : Nat) : w.frozen? ⟨tb, u, none⟩ = false := Blk.frozen h u
theorem TT.new (h : TT w tb f n) (hg : w.grownBy w' none) : TT w' tb f n := Blk.grown h hg (by simp)
theorem TT.put (h : TT w tb f n) {u : Nat} (hu : u < 10) (x : Int) : TT (w.setCell ⟨tb, u, none⟩ (.int .i64 x)) tb (putN f u x) n := by
  have := Blk.set_ h u (.int .i64 x)
  rw [tabArr_put f n hu] at this
  exact this
theorem TT.ne (h : TT w tb f n) {E : TypeId} (hE : E ≠ 133) : NotE w E (some tb) := NotE.blk h hE
end
set_option maxHeartbeats 1600000 in
set_option maxRecDepth 20000 in
theorem countTableOf_any (v : Value) (plan : List Node) (w : World) (h : RN w v plan) (hv : planValid plan = true) :
    Calls Tryz.prog 64 #[v] w fun e w' => ∃ tb, e = .returned (.pointer (some ⟨tb, 0, none⟩)) ∧ TT w' tb (tabTo plan plan.length) plan.length ∧ w.heap.size ≤ tb ∧ w.grownBy w' none := by
  obtain ⟨A, n, c, rfl, -, hn, -⟩ := h.form'
  have hn10 : n ≤ 10 := by have := planValid_len hv; omega
  have Hn := Lib.hid hn
  have Hv := Lib.hid hv
  clear hn hv
  go_enter Tryz.func64, Tryz.ntmps64
  go_upto_region 2 with fail
  have T0 : TT (w.alloc (.cells #[.int .i64 0, .int .i64 0, .int .i64 0, .int .i64 0, .int .i64 0, .int .i64 0, .int .i64 0, .int .i64 0, .int .i64 0, .int .i64 0, .int .i64 n] 133)) w.heap.size (tabTo plan 0) n := by
    rw [tabTo_zero]
    exact Blk.new _ _ _
  have hg0 := World.grownBy_alloc w (.cells #[.int .i64 0, .int .i64 0, .int .i64 0, .int .i64 0, .int .i64 0, .int .i64 0, .int .i64 0, .int .i64 0, .int .i64 0, .int .i64 0, .int .i64 n] 133) none
  have h0 := h.new hg0
  generalize w.alloc (.cells #[.int .i64 0, .int .i64 0, .int .i64 0, .int .i64 0, .int .i64 0, .int .i64 0, .int .i64 0, .int .i64 0, .int .i64 0, .int .i64 0, .int .i64 n] 133) = wA at T0 hg0 h0 ⊢
  clear h
  go_wp2_with fail
  go_loopg [13] (n + 1) (fun mm i wr => ∃ k : Nat, k ≤ n ∧ mm = n + 1 - k ∧ i = .int .i64 k ∧ TT wr w.heap.size (tabTo plan k) n ∧ RN wr (.slice A n c) plan ∧ w.grownBy wr none)
  case atStart => exact ⟨0, Nat.zero_le _, rfl, rfl, T0, h0, hg0⟩
  case round =>
    clear T0 h0 hg0
    obtain ⟨k, hk, rfl, rfl, T, h, hg⟩ := hrel
    by_cases hlt : k < n
    · go_wp2_with fail
      refine (planUses_any _ plan k wr h Hv.out (by rw [← Hn.out]; exact hlt)).mono ?_
      rintro e w2 ⟨uv, rfl, hu, hg2⟩
      rw [graphL_users Hv.out] at hu
      have T2 := T.new hg2
      have h2 := h.new hg2
      have g2 := gb_trans hg hg2
      obtain ⟨Au, m, cu, rfl, -, hm⟩ := hu.ri.form'
      have hm' : m = (usersOf plan k).length := by rw [hm, List.length_map]
      have hm10 : m ≤ 10 := by have := usersOf_len plan k; have := Hn.out; omega
      have Hm := Lib.hid hm'
      have hu2 := hu.ri
      clear T h hg hg2 hu hm hm'
      go_wp2_with fail
      go_loopg [20] (m + 1) (fun mm i wx => ∃ t : Nat, t ≤ m ∧ mm = m + 1 - t ∧ i = .int .i64 t ∧ TT wx w.heap.size (tabMid plan k t) n ∧ RN wx (.slice A n c) plan ∧ RI wx (.slice Au m cu) ((usersOf plan k).map (fun j : Nat => (j : Int))) ∧ w.grownBy wx none)
      case atStart => exact ⟨0, Nat.zero_le _, rfl, rfl, by rw [tabMid_zero]; exact T2, h2, hu2, g2⟩
      case round =>
        clear T2 h2 g2 hu2
        obtain ⟨t, ht, rfl, rfl, T, h, hr, hg⟩ := hrel
        by_cases hlt2 : t < m
        · obtain ⟨gu, ou, x, rfl, hx, c0⟩ := hr.at_ hlt2
          rw [List.getElem?_map] at hx
          obtain ⟨u, hu, rfl⟩ := Option.map_eq_some_iff.1 hx
          have hun : u < 10 := by
            have := (mem_usersOf.1 (List.mem_of_getElem? hu)).1
            have := Hn.out
            omega
          have T3 := T.put hun (tabMid plan k t u + 1)
          rw [← tabMid_succ hu] at T3
          have hz := T.cell hun
          have hzf := T.frozen u
          have hb := tabMid_in Hv.out k t u
          have hst : wr.grownBy (wr.setCell ⟨w.heap.size, u, none⟩ (.int .i64 (tabMid plan k t u + 1))) (some w.heap.size) := gb_set (gb_refl _ _) (.inr rfl) _
          have h3 := h.grown hst (T.ne (by decide)) (T.ne (by decide))
          have hr3 := hr.grown hst (T.ne (by decide))
          have g3 := gb_new hg hst (fun g e => by cases e; exact .inl (Nat.le_refl _))
          generalize tabMid plan k t u = y at hz hb T3 h3 hr3 g3 hst
          clear T h hr hg hst hx hu
          go_wp2_with fail
          go_region
          all_goals
            go_wp2_with fail
            go_roundg (m + 1 - (t + 1))
            case measure => omega
            case rel => exact ⟨t + 1, by omega, rfl, by go_num, T3, h3, hr3, by first | exact g3 | exact gb_drew g3⟩
        · obtain rfl : m = t := by omega
          have T3 : TT wr w.heap.size (tabTo plan (k + 1)) n := by
            rw [← tabMid_all Hv.out (Nat.le_of_eq Hm.out.symm)]
            exact T
          clear T
          go_wp2_with fail
          go_roundg (n + 1 - (k + 1))
          case measure => omega
          case rel => exact ⟨k + 1, by omega, rfl, by go_num, T3, h, hg⟩
    · obtain rfl : n = k := by omega
      go_wp2_with fail
      go_ret
      exact ⟨_, rfl, by rw [← Hn.out]; exact T, Nat.le_refl _, hg⟩
end Go.Proofs.YtihobnheficpjaaGreatDoor
