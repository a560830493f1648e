/- Walks: spec.l91Plan. · Walks: the draw of a plan; spec.CountNeeds. · Plain facts on a plan's links: how many there are. Conditions: none. -/
import Derived.Test.YtihobnheficpjaaGreatM12
import Derived.Test.YtihobnheficpjaaGreatM08
namespace Go.Proofs.YtihobnheficpjaaGreat
open Go.RowKit

def smallPlan (plan : List Node) : Prop := plan.length ≤ 11 ∧ ∀ nd ∈ plan, nd.frm.length ≤ 2 ∧ nd.row.length ≤ 20
def PlanPost (B0 rb : Nat) (w : World) (p : Int) (e : Ending) (w' : World) : Prop :=
  ∃ v plan, e = .returned v ∧ RN w' v plan ∧ smallPlan plan ∧ ∃ p', p ≤ p' ∧ p' ≤ p + 2000 ∧ Rdr B0 w' rb p' ∧ w.grownBy w' (some rb)

/-- The plan in the making. -/
structure PlanMid (B0 rb : Nat) (w wx : World) (v : Value) (plan : List Node) (q : Int) : Prop where
  o : OwnN wx w.heap.size v plan
  s : ∀ nd ∈ plan, nd.frm.length ≤ 2 ∧ nd.row.length ≤ 20
  rd : Rdr B0 wx rb q
  g : w.grownBy wx (some rb)
  hB : B0 ≤ w.heap.size
theorem PlanMid.call {B0 rb : Nat} {w wx wy : World} {v : Value} {plan : List Node} {q q' : Int} (M : PlanMid B0 rb w wx v plan q) (hg : wx.grownBy wy (some rb)) (hrd : Rdr B0 wy rb q') : PlanMid B0 rb w wy v plan q' :=
  ⟨M.o.grown hg (M.rd.notE (by decide)) (M.rd.notE (by decide)), M.s, hrd, gb_trans M.g hg, M.hB⟩
theorem PlanMid.alloc {B0 rb : Nat} {w wx : World} {v : Value} {plan : List Node} {q : Int} (M : PlanMid B0 rb w wx v plan q) (o : Obj) : PlanMid B0 rb w (wx.alloc o) v plan q :=
  M.call (gb_alloc (gb_refl wx _) o) (M.rd.new (World.grownBy_alloc _ _ _))
theorem PlanMid.push {B0 rb : Nat} {w wx wy : World} {v v' : Value} {plan : List Node} {nd : Node} {q : Int} (M : PlanMid B0 rb w wx v plan q) (hs : nd.frm.length ≤ 2 ∧ nd.row.length ≤ 20) (ho : OwnN wy w.heap.size v' (plan ++ [nd])) (hg : wx.grownBy wy v.ownBlock) :
    PlanMid B0 rb w wy v' (plan ++ [nd]) q := by
  refine ⟨ho, ?_, M.rd.kept hg (fun g e => ⟨Nat.le_trans M.hB (M.o.lt g e).1, fun hgr => ?_⟩), M.o.gb M.g hg (Nat.le_refl _), M.hB⟩
  · intro x hx
    rcases List.mem_append.1 hx with hx | hx
    · exact M.s x hx
    · simp at hx; subst hx; exact hs
  · obtain ⟨bv, hb⟩ := M.rd.blk
    exact M.o.notE (by decide) g e _ (hgr ▸ hb)
theorem PlanMid.set_ {B0 rb : Nat} {w wx : World} {plan : List Node} {nd : Node} {q : Int} {g n cap k : Nat} {cur : Array Value} {f r : Value} (M : PlanMid B0 rb w wx (.slice (some ⟨g, 0, none⟩) n cap) plan q) (hn : plan.length = n) (hk : k < n)
    (hf : RI wx f nd.frm) (hr : RI wx r nd.row) (hs : nd.frm.length ≤ 2 ∧ nd.row.length ≤ 20) (hgb : w.heap.size ≤ g) (hb : Blk wx g 52 cur) :
    PlanMid B0 rb w (((wx.setCell ⟨g, k * 3, none⟩ (.int .i64 nd.kind)).setCell ⟨g, k * 3 + 1, none⟩ f).setCell ⟨g, k * 3 + 2, none⟩ r) (.slice (some ⟨g, 0, none⟩) n cap) (plan.set k nd) q := by
  have hg : wx.grownBy (((wx.setCell ⟨g, k * 3, none⟩ (.int .i64 nd.kind)).setCell ⟨g, k * 3 + 1, none⟩ f).setCell ⟨g, k * 3 + 2, none⟩ r) (some g) :=
    gb_set (p := ⟨g, k * 3 + 2, none⟩) (gb_set (p := ⟨g, k * 3 + 1, none⟩) (gb_set (p := ⟨g, k * 3, none⟩) (gb_refl wx (some g)) (.inr rfl) _) (.inr rfl) _) (.inr rfl) _
  refine ⟨M.o.set_ hn hk hf hr, ?_, M.rd.kept hg ?_, gb_new M.g hg (fun g' e => by cases e; exact .inl hgb), M.hB⟩
  · intro x hx
    rcases List.mem_or_eq_of_mem_set hx with hx | rfl
    · exact M.s x hx
    · exact hs
  · intro g' e
    cases e
    obtain ⟨bv, hbb⟩ := M.rd.blk
    exact ⟨Nat.le_trans M.hB hgb, hb.ne_ hbb (by decide)⟩

set_option maxHeartbeats 400000 in
set_option maxRecDepth 20000 in
theorem l91Plan_any (B0 rb : Nat) (p : Int) (w : World) (h : Rdr B0 w rb p) (hp0 : 0 ≤ p) (hp : p ≤ 700000) :
    Calls Tryz.prog 46 #[.pointer (some ⟨rb, 0, none⟩)] w (PlanPost B0 rb w p) := by
  have hB : B0 ≤ w.heap.size := by obtain ⟨_, _, _, _, _, h4, _⟩ := h; exact h4
  go_enter Tryz.func46, Tryz.ntmps46
  go_wp2_with fail
  refine (pick_any B0 rb p _ _ (h.new (World.grownBy_alloc _ _ _)) (by omega) (by omega)).mono ?_
  rintro e w1 ⟨r1, rfl, hr1, _, hrd1, hg1⟩
  have M1 : PlanMid B0 rb w w1 (.slice (some ⟨w.heap.size, 0, none⟩) 0 0) [] (p + 1) :=
    ⟨(OwnN.empty w (Nat.le_refl _)).grown hg1 ((h.new (World.grownBy_alloc _ _ _)).notE (by decide)) ((h.new (World.grownBy_alloc _ _ _)).notE (by decide)), by simp, hrd1, gb_trans (gb_alloc (gb_refl w _) _) hg1, hB⟩
  go_wp2_with fail
  refine (pick_any B0 rb _ _ _ M1.rd (by omega) (by omega)).mono ?_
  rintro e w2 ⟨r2, rfl, hr2, _, hrd2, hg2⟩
  have M2 := M1.call hg2 hrd2
  have h1 := hr1 (by omega)
  have h2 := hr2 (by omega)
  go_wp2_with fail
  refine (pick_any B0 rb _ _ _ M2.rd (by omega) (by omega)).mono ?_
  rintro e w3 ⟨r3, rfl, hr3, _, hrd3, hg3⟩
  have M3 := M2.call hg3 hrd3
  have h3 := hr3 (by omega)
  clear M1 M2 hr1 hr2 hr3 hg1 hg2 hg3 hrd1 hrd2 hrd3
  go_upto_if 15 with fail
  go_cut [5] (fun nv wx => ∃ (n : Nat) (q : Int), nv = .int .i64 n ∧ n ≤ 11 ∧ p ≤ q ∧ q ≤ p + 10 ∧ PlanMid B0 rb w wx (.slice (some ⟨w.heap.size, 0, none⟩) 0 0) [] q)
  case first =>
    by_cases hz : r3 = 0
    · subst hz
      go_wp2_with fail
      refine (pick_any B0 rb _ _ _ (M3.alloc _).rd (by omega) (by omega)).mono ?_
      rintro e w4 ⟨r4, rfl, hr4, _, hrd4, hg4⟩
      have M4 := (M3.alloc _).call hg4 hrd4
      have h4 := hr4 (by omega)
      have hb : Blk w4 w3.heap.size 3 #[.int .i64 0, .int .i64 10, .int .i64 11] := (Blk.new w3 _ _).grown hg4 (by
        have := M3.rd.lt
        intro e
        cases e
        omega)
      obtain ⟨n, hn, hcell⟩ : ∃ n : Nat, n ≤ 11 ∧ w4.cell? ⟨w3.heap.size, r4.toNat, none⟩ = some (.int .i64 n) := by
        rcases (show r4 = 0 ∨ r4 = 1 ∨ r4 = 2 by omega) with rfl | rfl | rfl
        · exact ⟨0, by omega, hb.cell 0⟩
        · exact ⟨10, by omega, hb.cell 1⟩
        · exact ⟨11, by omega, hb.cell 2⟩
      clear hb
      go_wp2_with fail
      go_meet
      exact ⟨n, _, rfl, hn, by omega, by omega, M4⟩
    · obtain ⟨m, rfl⟩ := Int.eq_ofNat_of_zero_le h2.1
      go_wp2_with fail
      go_meet
      exact ⟨m + 1, _, by go_num, by omega, by omega, by omega, M3⟩
  case rest =>
    obtain ⟨n, q, rfl, hn, hq1, hq2, M⟩ := hcut
    clear M3 h2 h3
    obtain ⟨wide, rfl⟩ := Int.eq_ofNat_of_zero_le h1.1
    go_wp2_with fail
    go_loopw [3, 6] (fun v i wr => ∃ (k : Nat) (plan : List Node) (q' : Int), k ≤ n ∧ i = .int .i64 k ∧ plan.length = k ∧ q ≤ q' ∧ q' ≤ q + 100 * k ∧ PlanMid B0 rb w wr v plan q') (fun _ i _ => n - (intOf i).toNat)
    case atStart => exact ⟨0, [], q, by omega, rfl, rfl, by omega, by omega, M⟩
    case round =>
      clear M
      obtain ⟨k, plan, q', hk, rfl, hl, hq3, hq4, M⟩ := hrel
      have hl11 : plan.length ≤ 11 := by omega
      have Hl := Lib.hid hl
      clear hl
      by_cases hlt : k < n
      · go_wp2_with fail
        refine (l91Node_any B0 rb _ _ _ _ M.rd (by omega) (by omega) (by omega)).mono ?_
        rintro e w4 ⟨v4, nd, rfl, ⟨f, r, rfl, hf, hr⟩, hs1, hs2, q4, hq5, hq6, hrd4, hg4⟩
        have M4 := M.call hg4 hrd4
        go_wp2_with (at_builtin; go_must (refine wp_push_node (.tmp 26) (.tmp 31) rfl rfl M4.o hf hr (by omega) M4.g.size rfl rfl ?_))
        intro v' w5 hown5 hg5
        go_wp2_with fail
        go_roundw
        case rel => exact ⟨k + 1, plan ++ [nd], q4, by omega, by go_num, by simp [Hl.out], by omega, by omega, M4.push ⟨hs1, hs2⟩ hown5 hg5⟩
        case measure => simp [intOf]; omega
      · obtain rfl : k = n := by omega
        by_cases h1 : (1 : Int) < k
        · go_wp2_with fail
          refine (pick_any B0 rb _ _ _ M.rd (by omega) (by omega)).mono ?_
          rintro e w4 ⟨r4, rfl, hr4, _, hrd4, hg4⟩
          have M4 := M.call hg4 hrd4
          have h4 := hr4 (by omega)
          clear M
          by_cases hz : r4 = 0
          · subst hz
            have hri : RI (w4.alloc (.cells #[.int .i64 ((k : Int) - 1)] 3)) (.slice (some ⟨w4.heap.size, 0, none⟩) 1 1) [(k : Int) - 1] := RI.lit w4 [(k : Int) - 1]
            have M5 := M4.alloc (.cells #[.int .i64 ((k : Int) - 1)] 3)
            obtain ⟨g, cap, cur, rfl, hcap, hgb, hblk, hcs⟩ := M5.o.form Hl.out (by omega)
            obtain ⟨u0, c0⟩ := hcs ((k - 1) * 3) (by omega)
            obtain ⟨u1, c1⟩ := hcs ((k - 1) * 3 + 1) (by omega)
            obtain ⟨u2, c2⟩ := hcs ((k - 1) * 3 + 2) (by omega)
            have f0 := hblk.frozen ((k - 1) * 3)
            have f1 := hblk.frozen ((k - 1) * 3 + 1)
            have f2 := hblk.frozen ((k - 1) * 3 + 2)
            have Mf := M5.set_ (k := k - 1) (nd := ⟨4, [(k : Int) - 1], []⟩) Hl.out (by omega) hri (RI.nil _) (by simp) hgb hblk
            have hll : (plan.set (k - 1) ⟨4, [(k : Int) - 1], []⟩).length ≤ 11 := by rw [List.length_set]; exact hl11
            clear M4 M5 hblk hcs hri
            go_wp2_with fail
            go_ret
            exact ⟨_, _, rfl, Mf.o.rn, ⟨hll, Mf.s⟩, _, by omega, by omega, Mf.rd, Mf.g⟩
          · by_cases hz1 : r4 = 1
            · subst hz1
              go_wp2_with fail
              refine (l91Row_any B0 rb _ (wide + 1) _ M4.rd (by omega) (by omega) (by omega)).mono ?_
              rintro e w5 ⟨v5, row, rfl, hri, hl5, _, q5, hq5, hq6, hrd5, hg5⟩
              have M5 := M4.call hg5 hrd5
              have hr20 : row.length ≤ 20 := by omega
              clear hl5
              obtain ⟨A5, n5, c5, rfl⟩ := hri.val
              obtain ⟨g, cap, cur, rfl, hcap, hgb, hblk, hcs⟩ := M5.o.form Hl.out (by omega)
              obtain ⟨u0, c0⟩ := hcs ((k - 1) * 3) (by omega)
              obtain ⟨u1, c1⟩ := hcs ((k - 1) * 3 + 1) (by omega)
              obtain ⟨u2, c2⟩ := hcs ((k - 1) * 3 + 2) (by omega)
              have f0 := hblk.frozen ((k - 1) * 3)
              have f1 := hblk.frozen ((k - 1) * 3 + 1)
              have f2 := hblk.frozen ((k - 1) * 3 + 2)
              have Mf := M5.set_ (k := k - 1) (nd := ⟨0, [], row⟩) Hl.out (by omega) (RI.nil _) hri (by simp; omega) hgb hblk
              have hll : (plan.set (k - 1) ⟨0, [], row⟩).length ≤ 11 := by rw [List.length_set]; exact hl11
              clear M4 M5 hblk hcs hri
              go_wp2_with fail
              go_ret
              exact ⟨_, _, rfl, Mf.o.rn, ⟨hll, Mf.s⟩, _, by omega, by omega, Mf.rd, Mf.g⟩
            · go_wp2_with fail
              go_ret
              exact ⟨_, plan, rfl, M4.o.rn, ⟨hl11, M4.s⟩, _, by omega, by omega, M4.rd, M4.g⟩
        · go_wp2_with fail
          go_ret
          exact ⟨_, plan, rfl, M.o.rn, ⟨hl11, M.s⟩, q', by omega, by omega, M.rd, M.g⟩
end Go.Proofs.YtihobnheficpjaaGreat
namespace Go.Proofs.YtihobnheficpjaaGreat
open Go.RowKit

/-- A drawn plan: a new one, nothing that was there turned. -/
def DrawPlan (w : World) (e : Ending) (w' : World) : Prop := ∃ v plan, e = .returned v ∧ RN w' v plan ∧ smallPlan plan ∧ w.grownBy w' none


/-- The sum of the needs of the first k nodes. -/
def fsum (plan : List Node) (k : Nat) : Int := ((plan.take k).map (fun x => (x.frm.length : Int))).sum
theorem fsum_succ {plan : List Node} {k : Nat} {nd : Node} (h : plan[k]? = some nd) : fsum plan (k + 1) = fsum plan k + nd.frm.length := by
  obtain ⟨hk, rfl⟩ := List.getElem?_eq_some_iff.1 h
  unfold fsum
  rw [List.take_succ_eq_append_getElem hk, List.map_append, List.sum_append]
  simp
theorem fsum_bound {plan : List Node} (hv : planValid plan = true) (k : Nat) : 0 ≤ fsum plan k ∧ fsum plan k ≤ 2 * k := by
  induction k with
  | zero => simp [fsum]
  | succ k ih =>
    cases h : plan[k]? with
    | none =>
      have : plan.length ≤ k := by simpa using h
      have e : fsum plan (k + 1) = fsum plan k := by unfold fsum; rw [List.take_of_length_le (by omega), List.take_of_length_le this]
      omega
    | some nd =>
      have := (planValid_node hv h).2.1
      rw [fsum_succ h]
      omega
theorem fsum_all {plan : List Node} (hv : planValid plan = true) : fsum plan plan.length = countNeeds plan := by
  unfold fsum countNeeds
  rw [if_pos hv, List.take_of_length_le (Nat.le_refl _)]

end Go.Proofs.YtihobnheficpjaaGreat
namespace Go.Proofs.YtihobnheficpjaaGreat
open Go.RowKit

/-- How many users the first N nodes have. -/
def ulen (N : Nat) (L : Nat → List Nat) : Nat := ((List.range N).map (fun i => (L (2 * i + 2)).length)).sum
theorem ulen_succ (N : Nat) (L : Nat → List Nat) : ulen (N + 1) L = ulen N L + (L (2 * N + 2)).length := by
  unfold ulen
  rw [List.range_succ, List.map_append, List.sum_append]
  simp
theorem ulen_other {N : Nat} {L L' : Nat → List Nat} (h : ∀ i, i < N → L' (2 * i + 2) = L (2 * i + 2)) : ulen N L' = ulen N L := by
  induction N with
  | zero => rfl
  | succ N ih => rw [ulen_succ, ulen_succ, ih (fun i hi => h i (by omega)), h N (by omega)]
theorem ulen_upd {N f : Nat} {L : Nat → List Nat} {x : List Nat} (hf : f < N) (hx : x.length = (L (2 * f + 2)).length + 1) : ulen N (upd L (2 * f + 2) x) = ulen N L + 1 := by
  induction N with
  | zero => omega
  | succ N ih =>
    rw [ulen_succ, ulen_succ]
    by_cases h : f = N
    · subst h
      rw [upd_same, hx, ulen_other (fun i hi => upd_other _ _ (by omega))]
      omega
    · rw [upd_other _ _ (by omega), ih (by omega)]
      omega
theorem linkL_ulen {N n f : Nat} (L : Nat → List Nat) (hf : f < N) : ulen N (linkL n f L) = ulen N L + (if f ∈ L (2 * n + 1) then 0 else 1) := by
  unfold linkL
  split
  · rfl
  · rw [ulen_upd hf (by rw [List.length_append, upd_other _ _ (by omega)]; rfl), ulen_other (fun i hi => upd_other _ _ (by omega))]
theorem linkL_row {n f a : Nat} (L : Nat → List Nat) (h1 : a ≠ 2 * n + 1) (h2 : a ≠ 2 * f + 2) : linkL n f L a = L a := by
  unfold linkL
  split
  · rfl
  · rw [upd_other _ _ h2, upd_other _ _ h1]
theorem linkAll_row {n a : Nat} {frm : List Int} (L : Nat → List Nat) (hf : ∀ y ∈ frm, 0 ≤ y ∧ y < (n : Int)) (h1 : 2 * n + 1 < a) : linkAll n frm L a = L a := by
  unfold linkAll
  induction frm generalizing L with
  | nil => rfl
  | cons x xs ih =>
    have hx := hf x (by simp)
    rw [List.foldl_cons, ih _ (fun y hy => hf y (by simp [hy])), linkL_row _ (by omega) (by omega)]
/-- Behind step k the rows from 2k+1 on are empty. -/
theorem graphTo_rest {plan : List Node} (hv : planValid plan = true) (k : Nat) : ∀ a, 2 * k + 1 ≤ a → graphTo plan k a = [] := by
  induction k with
  | zero => intro a _; rfl
  | succ k ih =>
    intro a ha
    cases h : plan[k]? with
    | none =>
      have hl : plan.length ≤ k := by simpa using h
      have e : graphTo plan (k + 1) = graphTo plan k := by
        unfold graphTo
        rw [List.take_of_length_le (by simp; omega), List.take_of_length_le (by simp; omega)]
      rw [e]
      exact ih a (by omega)
    | some nd =>
      rw [graphTo_succ h]
      unfold graphStep
      rw [upd_other _ _ (by omega)]
      have hfit := (planValid_node hv h).1
      rw [linkAll_row _ (fun y hy => nodeFits_mem hfit hy) (by omega)]
      exact ih a (by omega)
theorem linkAll_ulen {N n : Nat} {frm : List Int} (L : Nat → List Nat) (hf : ∀ y ∈ frm, 0 ≤ y ∧ y < (n : Int)) (hn : n < N) (hl : frm.length ≤ 2) (h0 : L (2 * n + 1) = []) :
    ulen N L ≤ ulen N (linkAll n frm L) ∧ ulen N (linkAll n frm L) - ulen N L ≤ frm.length ∧ frm.length ≤ 2 * (ulen N (linkAll n frm L) - ulen N L) := by
  match frm, hl with
  | [], _ => simp [linkAll]
  | [x], _ =>
    have hx := hf x (by simp)
    show ulen N L ≤ ulen N (linkL n x.toNat L) ∧ _
    have e := linkL_ulen (n := n) L (show x.toNat < N by omega)
    rw [h0] at e
    simp only [List.not_mem_nil, if_false] at e
    show _ ∧ ulen N (linkL n x.toNat L) - ulen N L ≤ _ ∧ _ ≤ 2 * (ulen N (linkL n x.toNat L) - ulen N L)
    simp only [List.length_cons, List.length_nil]
    omega
  | [x, y], _ =>
    have hx := hf x (by simp)
    have hy := hf y (by simp)
    have e := linkL_ulen (n := n) L (show x.toNat < N by omega)
    have e2 := linkL_ulen (n := n) (linkL n x.toNat L) (show y.toNat < N by omega)
    rw [h0] at e
    simp only [List.not_mem_nil, if_false] at e
    show ulen N L ≤ ulen N (linkL n y.toNat (linkL n x.toNat L)) ∧ ulen N (linkL n y.toNat (linkL n x.toNat L)) - ulen N L ≤ _ ∧ _ ≤ 2 * (ulen N (linkL n y.toNat (linkL n x.toNat L)) - ulen N L)
    simp only [List.length_cons, List.length_nil]
    split at e2 <;> omega
theorem graphTo_ulen {plan : List Node} (hv : planValid plan = true) {k : Nat} (hk : k ≤ plan.length) : (ulen plan.length (graphTo plan k) : Int) ≤ fsum plan k ∧ fsum plan k ≤ 2 * ulen plan.length (graphTo plan k) := by
  induction k with
  | zero =>
    have e : ∀ N, ulen N (fun _ => []) = 0 := by
      intro N
      induction N with
      | zero => rfl
      | succ N ih => rw [ulen_succ, ih]; rfl
    show ((ulen plan.length (fun _ => []) : Nat) : Int) ≤ fsum plan 0 ∧ fsum plan 0 ≤ 2 * (ulen plan.length (fun _ => []) : Nat)
    rw [e]
    simp [fsum]
  | succ k ih =>
    obtain ⟨h1, h2⟩ := ih (by omega)
    obtain ⟨nd, h⟩ : ∃ nd, plan[k]? = some nd := ⟨_, List.getElem?_eq_getElem (by omega)⟩
    have hfit := planValid_node hv h
    have e := linkAll_ulen (N := plan.length) (n := k) (graphTo plan k) (fun y hy => nodeFits_mem hfit.1 hy) (by omega) hfit.2.1 (graphTo_rest hv k _ (by omega))
    rw [graphTo_succ h, fsum_succ h]
    have e2 : ulen plan.length (graphStep (graphTo plan k) (nd, k)) = ulen plan.length (linkAll k nd.frm (graphTo plan k)) := ulen_other (fun i hi => upd_other _ _ (by omega))
    rw [e2]
    omega
theorem graphTo_zero {plan : List Node} {k : Nat} (hk : k ≤ plan.length) : graphTo plan k 0 = List.range k := by
  induction k with
  | zero => rfl
  | succ k ih =>
    obtain ⟨nd, h⟩ : ∃ nd, plan[k]? = some nd := ⟨_, List.getElem?_eq_getElem (by omega)⟩
    rw [graphTo_succ h]
    unfold graphStep
    rw [upd_same, linkAll_zero, ih (by omega), List.range_succ]
end Go.Proofs.YtihobnheficpjaaGreat
