/- Walks: spec.l91Plan. · Walks: spec.l3Wide, spec.l3Node, spec.PlanValid. · Walks: the draw of a plan; spec.CountNeeds. -/
import Derived.Test.YtihobnheficpjaaGreatDoorM10
import Derived.Test.YtihobnheficpjaaGreatDoorM05
import Derived.Test.YtihobnheficpjaaGreatDoorM08
import Derived.Deep.RegionHeld3
import Derived.Deep.DeepCutAuto
namespace Go.Proofs.YtihobnheficpjaaGreatDoor
open Go.RowKit

def smallPlan (plan : List Node) : Prop := plan.length ≤ 11 ∧ ∀ nd ∈ plan, nd.frm.length ≤ 2 ∧ nd.row.length ≤ 20
def PlanPost (B0 rb : Nat) (w : World) (p : Int) (e : Ending) (w' : World) : Prop :=
  ∃ v plan, e = .returned v ∧ RN w' v plan ∧ smallPlan plan ∧ ∃ p', p ≤ p' ∧ p' ≤ p + 2000 ∧ Rdr B0 w' rb p' ∧ w.grownBy w' (some rb)

/-- The plan in the making. -/
structure PlanMid (B0 rb : Nat) (w wx : World) (v : Value) (plan : List Node) (q : Int) : Prop where
  o : OwnN wx w.heap.size v plan
  s : ∀ nd ∈ plan, nd.frm.length ≤ 2 ∧ nd.row.length ≤ 20
  rd : Rdr B0 wx rb q
  g : w.grownBy wx (some rb)
  hB : B0 ≤ w.heap.size
theorem PlanMid.call {B0 rb : Nat} {w wx wy : World} {v : Value} {plan : List Node} {q q' : Int} (M : PlanMid B0 rb w wx v plan q) (hg : wx.grownBy wy (some rb)) (hrd : Rdr B0 wy rb q') : PlanMid B0 rb w wy v plan q' :=
  ⟨M.o.grown hg (M.rd.notE (by decide)) (M.rd.notE (by decide)), M.s, hrd, gb_trans M.g hg, M.hB⟩
theorem PlanMid.alloc {B0 rb : Nat} {w wx : World} {v : Value} {plan : List Node} {q : Int} (M : PlanMid B0 rb w wx v plan q) (o : Obj) : PlanMid B0 rb w (wx.alloc o) v plan q :=
  M.call (gb_alloc (gb_refl wx _) o) (M.rd.new (World.grownBy_alloc _ _ _))
theorem PlanMid.push {B0 rb : Nat} {w wx wy : World} {v v' : Value} {plan : List Node} {nd : Node} {q : Int} (M : PlanMid B0 rb w wx v plan q) (hs : nd.frm.length ≤ 2 ∧ nd.row.length ≤ 20) (ho : OwnN wy w.heap.size v' (plan ++ [nd])) (hg : wx.grownBy wy v.ownBlock) :
    PlanMid B0 rb w wy v' (plan ++ [nd]) q := by
  refine ⟨ho, ?_, M.rd.kept hg (fun g e => ⟨Nat.le_trans M.hB (M.o.lt g e).1, fun hgr => ?_⟩), M.o.gb M.g hg (Nat.le_refl _), M.hB⟩
  · intro x hx
    rcases List.mem_append.1 hx with hx | hx
    · exact M.s x hx
    · simp at hx; subst hx; exact hs
  · obtain ⟨bv, hb⟩ := M.rd.blk
    exact M.o.notE (by decide) g e _ (hgr ▸ hb)
theorem PlanMid.set_ {B0 rb : Nat} {w wx : World} {plan : List Node} {nd : Node} {q : Int} {g n cap k : Nat} {cur : Array Value} {f r : Value} (M : PlanMid B0 rb w wx (.slice (some ⟨g, 0, none⟩) n cap) plan q) (hn : plan.length = n) (hk : k < n)
    (hf : RI wx f nd.frm) (hr : RI wx r nd.row) (hs : nd.frm.length ≤ 2 ∧ nd.row.length ≤ 20) (hgb : w.heap.size ≤ g) (hb : Blk wx g 94 cur) :
    PlanMid B0 rb w (((wx.setCell ⟨g, k * 3, none⟩ (.int .i64 nd.kind)).setCell ⟨g, k * 3 + 1, none⟩ f).setCell ⟨g, k * 3 + 2, none⟩ r) (.slice (some ⟨g, 0, none⟩) n cap) (plan.set k nd) q := by
  have hg : wx.grownBy (((wx.setCell ⟨g, k * 3, none⟩ (.int .i64 nd.kind)).setCell ⟨g, k * 3 + 1, none⟩ f).setCell ⟨g, k * 3 + 2, none⟩ r) (some g) :=
    gb_set (p := ⟨g, k * 3 + 2, none⟩) (gb_set (p := ⟨g, k * 3 + 1, none⟩) (gb_set (p := ⟨g, k * 3, none⟩) (gb_refl wx (some g)) (.inr rfl) _) (.inr rfl) _) (.inr rfl) _
  refine ⟨M.o.set_ hn hk hf hr, ?_, M.rd.kept hg ?_, gb_new M.g hg (fun g' e => by cases e; exact .inl hgb), M.hB⟩
  · intro x hx
    rcases List.mem_or_eq_of_mem_set hx with hx | rfl
    · exact M.s x hx
    · exact hs
  · intro g' e
    cases e
    obtain ⟨bv, hbb⟩ := M.rd.blk
    exact ⟨Nat.le_trans M.hB hgb, hb.ne_ hbb (by decide)⟩

set_option maxHeartbeats 400000 in
set_option maxRecDepth 20000 in
theorem l91Plan_any (B0 rb : Nat) (p : Int) (w : World) (h : Rdr B0 w rb p) (hp0 : 0 ≤ p) (hp : p ≤ 700000) :
    Calls Tryz.prog 120 #[.pointer (some ⟨rb, 0, none⟩)] w (PlanPost B0 rb w p) := by
  have hB : B0 ≤ w.heap.size := by obtain ⟨_, _, _, _, _, h4, _⟩ := h; exact h4
  go_enter Tryz.func120, Tryz.ntmps120
  go_wp2_with fail
  refine (pick_any B0 rb p _ _ (h.new (World.grownBy_alloc _ _ _)) (by omega) (by omega)).mono ?_
  rintro e w1 ⟨r1, rfl, hr1, _, hrd1, hg1⟩
  have M1 : PlanMid B0 rb w w1 (.slice (some ⟨w.heap.size, 0, none⟩) 0 0) [] (p + 1) :=
    ⟨(OwnN.empty w (Nat.le_refl _)).grown hg1 ((h.new (World.grownBy_alloc _ _ _)).notE (by decide)) ((h.new (World.grownBy_alloc _ _ _)).notE (by decide)), by simp, hrd1, gb_trans (gb_alloc (gb_refl w _) _) hg1, hB⟩
  go_wp2_with fail
  refine (pick_any B0 rb _ _ _ M1.rd (by omega) (by omega)).mono ?_
  rintro e w2 ⟨r2, rfl, hr2, _, hrd2, hg2⟩
  have M2 := M1.call hg2 hrd2
  have h1 := hr1 (by omega)
  have h2 := hr2 (by omega)
  go_wp2_with fail
  refine (pick_any B0 rb _ _ _ M2.rd (by omega) (by omega)).mono ?_
  rintro e w3 ⟨r3, rfl, hr3, _, hrd3, hg3⟩
  have M3 := M2.call hg3 hrd3
  have h3 := hr3 (by omega)
  clear M1 M2 hr1 hr2 hr3 hg1 hg2 hg3 hrd1 hrd2 hrd3
  go_upto_if 15 with fail
  go_cut [5] (fun nv wx => ∃ (n : Nat) (q : Int), nv = .int .i64 n ∧ n ≤ 11 ∧ p ≤ q ∧ q ≤ p + 10 ∧ PlanMid B0 rb w wx (.slice (some ⟨w.heap.size, 0, none⟩) 0 0) [] q)
  case first =>
    by_cases hz : r3 = 0
    · subst hz
      go_wp2_with fail
      refine (pick_any B0 rb _ _ _ (M3.alloc _).rd (by omega) (by omega)).mono ?_
      rintro e w4 ⟨r4, rfl, hr4, _, hrd4, hg4⟩
      have M4 := (M3.alloc _).call hg4 hrd4
      have h4 := hr4 (by omega)
      have hb : Blk w4 w3.heap.size 3 #[.int .i64 0, .int .i64 10, .int .i64 11] := (Blk.new w3 _ _).grown hg4 (by
        have := M3.rd.lt
        intro e
        cases e
        omega)
      obtain ⟨n, hn, hcell⟩ : ∃ n : Nat, n ≤ 11 ∧ w4.cell? ⟨w3.heap.size, r4.toNat, none⟩ = some (.int .i64 n) := by
        rcases (show r4 = 0 ∨ r4 = 1 ∨ r4 = 2 by omega) with rfl | rfl | rfl
        · exact ⟨0, by omega, hb.cell 0⟩
        · exact ⟨10, by omega, hb.cell 1⟩
        · exact ⟨11, by omega, hb.cell 2⟩
      clear hb
      go_wp2_with fail
      go_meet
      exact ⟨n, _, rfl, hn, by omega, by omega, M4⟩
    · obtain ⟨m, rfl⟩ := Int.eq_ofNat_of_zero_le h2.1
      go_wp2_with fail
      go_meet
      exact ⟨m + 1, _, by go_num, by omega, by omega, by omega, M3⟩
  case rest =>
    obtain ⟨n, q, rfl, hn, hq1, hq2, M⟩ := hcut
    clear M3 h2 h3
    obtain ⟨wide, rfl⟩ := Int.eq_ofNat_of_zero_le h1.1
    go_wp2_with fail
    go_loopw [3, 6] (fun v i wr => ∃ (k : Nat) (plan : List Node) (q' : Int), k ≤ n ∧ i = .int .i64 k ∧ plan.length = k ∧ q ≤ q' ∧ q' ≤ q + 100 * k ∧ PlanMid B0 rb w wr v plan q') (fun _ i _ => n - (intOf i).toNat)
    case atStart => exact ⟨0, [], q, by omega, rfl, rfl, by omega, by omega, M⟩
    case round =>
      clear M
      obtain ⟨k, plan, q', hk, rfl, hl, hq3, hq4, M⟩ := hrel
      have hl11 : plan.length ≤ 11 := by omega
      have Hl := Lib.hid hl
      clear hl
      by_cases hlt : k < n
      · go_wp2_with fail
        refine (l91Node_any B0 rb _ _ _ _ M.rd (by omega) (by omega) (by omega)).mono ?_
        rintro e w4 ⟨v4, nd, rfl, ⟨f, r, rfl, hf, hr⟩, hs1, hs2, q4, hq5, hq6, hrd4, hg4⟩
        have M4 := M.call hg4 hrd4
        go_wp2_with (at_builtin; go_must (refine wp_push_node (.tmp 26) (.tmp 31) rfl rfl M4.o hf hr (by omega) M4.g.size rfl rfl ?_))
        intro v' w5 hown5 hg5
        go_wp2_with fail
        go_roundw
        case rel => exact ⟨k + 1, plan ++ [nd], q4, by omega, by go_num, by simp [Hl.out], by omega, by omega, M4.push ⟨hs1, hs2⟩ hown5 hg5⟩
        case measure => simp [intOf]; omega
      · obtain rfl : k = n := by omega
        by_cases h1 : (1 : Int) < k
        · go_wp2_with fail
          refine (pick_any B0 rb _ _ _ M.rd (by omega) (by omega)).mono ?_
          rintro e w4 ⟨r4, rfl, hr4, _, hrd4, hg4⟩
          have M4 := M.call hg4 hrd4
          have h4 := hr4 (by omega)
          clear M
          by_cases hz : r4 = 0
          · subst hz
            have hri : RI (w4.alloc (.cells #[.int .i64 ((k : Int) - 1)] 3)) (.slice (some ⟨w4.heap.size, 0, none⟩) 1 1) [(k : Int) - 1] := RI.lit w4 [(k : Int) - 1]
            have M5 := M4.alloc (.cells #[.int .i64 ((k : Int) - 1)] 3)
            obtain ⟨g, cap, cur, rfl, hcap, hgb, hblk, hcs⟩ := M5.o.form Hl.out (by omega)
            obtain ⟨u0, c0⟩ := hcs ((k - 1) * 3) (by omega)
            obtain ⟨u1, c1⟩ := hcs ((k - 1) * 3 + 1) (by omega)
            obtain ⟨u2, c2⟩ := hcs ((k - 1) * 3 + 2) (by omega)
            have f0 := hblk.frozen ((k - 1) * 3)
            have f1 := hblk.frozen ((k - 1) * 3 + 1)
            have f2 := hblk.frozen ((k - 1) * 3 + 2)
            have Mf := M5.set_ (k := k - 1) (nd := ⟨4, [(k : Int) - 1], []⟩) Hl.out (by omega) hri (RI.nil _) (by simp) hgb hblk
            have hll : (plan.set (k - 1) ⟨4, [(k : Int) - 1], []⟩).length ≤ 11 := by rw [List.length_set]; exact hl11
            clear M4 M5 hblk hcs hri
            go_wp2_with fail
            go_ret
            exact ⟨_, _, rfl, Mf.o.rn, ⟨hll, Mf.s⟩, _, by omega, by omega, Mf.rd, Mf.g⟩
          · by_cases hz1 : r4 = 1
            · subst hz1
              go_wp2_with fail
              refine (l91Row_any B0 rb _ (wide + 1) _ M4.rd (by omega) (by omega) (by omega)).mono ?_
              rintro e w5 ⟨v5, row, rfl, hri, hl5, _, q5, hq5, hq6, hrd5, hg5⟩
              have M5 := M4.call hg5 hrd5
              have hr20 : row.length ≤ 20 := by omega
              clear hl5
              obtain ⟨A5, n5, c5, rfl⟩ := hri.val
              obtain ⟨g, cap, cur, rfl, hcap, hgb, hblk, hcs⟩ := M5.o.form Hl.out (by omega)
              obtain ⟨u0, c0⟩ := hcs ((k - 1) * 3) (by omega)
              obtain ⟨u1, c1⟩ := hcs ((k - 1) * 3 + 1) (by omega)
              obtain ⟨u2, c2⟩ := hcs ((k - 1) * 3 + 2) (by omega)
              have f0 := hblk.frozen ((k - 1) * 3)
              have f1 := hblk.frozen ((k - 1) * 3 + 1)
              have f2 := hblk.frozen ((k - 1) * 3 + 2)
              have Mf := M5.set_ (k := k - 1) (nd := ⟨0, [], row⟩) Hl.out (by omega) (RI.nil _) hri (by simp; omega) hgb hblk
              have hll : (plan.set (k - 1) ⟨0, [], row⟩).length ≤ 11 := by rw [List.length_set]; exact hl11
              clear M4 M5 hblk hcs hri
              go_wp2_with fail
              go_ret
              exact ⟨_, _, rfl, Mf.o.rn, ⟨hll, Mf.s⟩, _, by omega, by omega, Mf.rd, Mf.g⟩
            · go_wp2_with fail
              go_ret
              exact ⟨_, plan, rfl, M4.o.rn, ⟨hl11, M4.s⟩, _, by omega, by omega, M4.rd, M4.g⟩
        · go_wp2_with fail
          go_ret
          exact ⟨_, plan, rfl, M.o.rn, ⟨hl11, M.s⟩, q', by omega, by omega, M.rd, M.g⟩
end Go.Proofs.YtihobnheficpjaaGreatDoor
namespace Go.Proofs.YtihobnheficpjaaGreatDoor
open Go.RowKit

theorem l3Wide_any (v : Value) (plan : List Node) (w : World) (h : RN w v plan) :
    Calls Tryz.prog 127 #[v] w fun e w' => e = .returned (.int .i64 (wide plan : Nat)) ∧ w = w' := by
  obtain ⟨A, n, c, rfl, _, hn, hle⟩ := h.form'
  have Hn := Lib.hid hn
  clear hn
  go_enter Tryz.func127, Tryz.ntmps127
  go_wp2
  go_loop [3] (fun i => ∃ k : Nat, k ≤ n ∧ i = .int .i64 k ∧ (plan.take k).all (fun x => x.kind != 0) = true) (fun i => n - (intOf i).toNat)
  case atStart => exact ⟨0, Nat.zero_le _, rfl, rfl⟩
  case round =>
    obtain ⟨k, hk, rfl, hall⟩ := hrel
    have Hall := Lib.hid hall
    clear hall
    by_cases hlt : k < n
    · obtain ⟨g, o, nd, f, r, rfl, hx, c0, c1, c2, hf, hr⟩ := h.at_ hlt
      have Hx := Lib.hid hx
      clear hx
      by_cases hk0 : nd.kind = 0
      · have Hr : Hid (wide plan = nd.row.length) := by
          show wide plan = nd.row.length
          have : plan.find? (fun x => x.kind == 0) = some nd := by
            rw [List.find?_eq_some_iff_getElem]
            obtain ⟨hk', hx'⟩ := List.getElem?_eq_some_iff.1 Hx.out
            refine ⟨by simp [hk0], k, hk', hx', fun j hj => ?_⟩
            have := List.all_eq_true.1 Hall.out plan[j] (List.mem_take_iff_getElem.2 ⟨j, by omega, rfl⟩)
            simpa using this
          unfold wide
          rw [this]
        obtain ⟨Ar, nr, cr, rfl, _, hnr⟩ := hr.form'
        rw [← hnr] at Hr
        clear hnr
        rw [hk0] at c0
        clear hk0
        go_wp2_with fail
        go_ret
        exact ⟨by rw [Hr.out]; rfl, rfl⟩
      · have hb : (nd.kind == 0) = false := by simpa using hk0
        have Hb : Hid (nd.kind != 0) := by show (nd.kind != 0) = true; simpa using hk0
        clear hk0
        go_wp2_with fail
        go_round
        case rel => exact ⟨k + 1, by omega, by go_num, by rw [all_snoc _ Hx.out, Hall.out]; exact Hb.out⟩
        case measure => simp [intOf]; omega
    · have Hr : Hid (wide plan = 0) := by
        show wide plan = 0
        have : plan.find? (fun x => x.kind == 0) = none := by
          rw [List.find?_eq_none]
          intro x hx
          have h1 := Hall.out
          rw [show k = n by omega, Hn.out, List.take_length] at h1
          simpa using List.all_eq_true.1 h1 x hx
        unfold wide
        rw [this]
      go_wp2_with fail
      go_ret
      exact ⟨by rw [Hr.out]; rfl, rfl⟩

set_option maxHeartbeats 400000 in
theorem l3Node_any (v : Value) (nd : Node) (at_ : Int) (wd : Nat) (w : World) (h : NV w v nd) (ha0 : 0 ≤ at_) (ha1 : at_ ≤ 1000000000) :
    Calls Tryz.prog 126 #[v, .int .i64 at_, .int .i64 wd] w fun e w' => e = .returned (.bool (nodeOk nd at_ wd)) ∧ w.grownBy w' none := by
  obtain ⟨f, r, rfl, hf, hr⟩ := h
  have hfl := hf.le
  have hrl := hr.le
  obtain ⟨Af, nf, cf, rfl, _, hnf⟩ := hf.form'
  obtain ⟨Ar, nr, cr, rfl, _, hnr⟩ := hr.form'
  rw [← hnf] at hfl
  rw [← hnr] at hrl
  have Hnf := Lib.hid hnf
  have Hnr := Lib.hid hnr
  clear hnf hnr
  have hrW := hr.alloc (.cells #[.int .i64 nd.kind, .slice Af nf cf, .slice Ar nr cr] 94)
  have hfW := hf.alloc (.cells #[.int .i64 nd.kind, .slice Af nf cf, .slice Ar nr cr] 94)
  have hG : Hid (w.grownBy (w.alloc (.cells #[.int .i64 nd.kind, .slice Af nf cf, .slice Ar nr cr] 94)) none) := World.grownBy_alloc _ _ _
  clear hf hr
  by_cases hk : kindNeeds nd.kind = nf
  · have hb : (kindNeeds nd.kind != (nf : Int)) = false := by simpa using hk
    clear hk
    by_cases hv : rowValid nd.row = true
    · have Hv := Lib.hid hv
      clear hv
      go_enter Tryz.func126, Tryz.ntmps126
      go_wp2_with fail
      go_quiet ((first
        | (go_at_call 147; exact quiet_l (specKindNeeds_any _ _))
        | (go_at_call 148; exact quiet_l (specRowValid_b _ _ _ (by exact hrW) Hv.out))))
      go_wp2_with fail
      go_loop [7] (fun i => ∃ k : Nat, k ≤ nf ∧ i = .int .i64 k ∧ (nd.frm.take k).all (fun y => decide (0 ≤ y) && decide (y ≤ at_ - 1)) = true) (fun i => nf - (intOf i).toNat)
      case atStart => exact ⟨0, Nat.zero_le _, rfl, rfl⟩
      case round =>
        obtain ⟨k, hk, rfl, hall⟩ := hrel
        have Hall := Lib.hid hall
        clear hall
        by_cases hlt : k < nf
        · obtain ⟨g, o, x, rfl, hx, hcell⟩ := hfW.at_ hlt
          have Hx := Lib.hid hx
          clear hx
          by_cases hin : (decide (0 ≤ x) && decide (x ≤ at_ - 1)) = true
          · have Hin := Lib.hid hin
            go_wp2_with fail
            refine (l6In_any _ _ _ _).mono ?_
            rw [hin]
            clear hin
            rintro e w' ⟨rfl, rfl⟩
            go_wp2_with fail
            go_round
            case rel => exact ⟨k + 1, by omega, by go_num, by rw [all_snoc _ Hx.out, Hall.out, Hin.out]; rfl⟩
            case measure => simp [intOf]; omega
          · have hin' : (decide (0 ≤ x) && decide (x ≤ at_ - 1)) = false := by simpa using hin
            have Hr : Hid (nodeOk nd at_ wd = false) := by
              show nodeOk nd at_ wd = false
              have : nd.frm.all (fun y => decide (0 ≤ y) && decide (y ≤ at_ - 1)) = false := by
                rw [List.all_eq_false]
                exact ⟨x, List.mem_of_getElem? Hx.out, by simpa using hin⟩
              unfold nodeOk
              rw [this]
              simp
            clear hin
            go_wp2_with fail
            refine (l6In_any _ _ _ _).mono ?_
            rw [hin']
            clear hin'
            rintro e w' ⟨rfl, rfl⟩
            go_wp2_with fail
            go_ret
            exact ⟨by rw [Hr.out]; rfl, gb_drewN hG.out _⟩
        · have Hr : Hid (nodeOk nd at_ wd = if nd.kind = 0 then decide (nr = wd) else decide (nr = 0)) := by
            show nodeOk nd at_ wd = if nd.kind = 0 then decide (nr = wd) else decide (nr = 0)
            have h1 := Hall.out
            rw [show k = nf by omega, Hnf.out, List.take_length] at h1
            have h2 : kindNeeds nd.kind = (nd.frm.length : Int) := by rw [← Hnf.out]; simpa using hb
            unfold nodeOk
            rw [h1, h2, Hv.out, Hnr.out]
            simp
          by_cases hk0 : nd.kind = 0
          · have Hr' : Hid (nodeOk nd at_ wd = ((nr : Int) == (wd : Int))) := by
              show nodeOk nd at_ wd = ((nr : Int) == (wd : Int))
              rw [Hr.out, if_pos hk0, Bool.eq_iff_iff]
              simp
              omega
            have hb0 : (nd.kind == 0) = true := by simpa using hk0
            clear hk0 Hr
            go_wp2_with fail
            go_ret
            exact ⟨by rw [Hr'.out]; rfl, gb_drewN hG.out _⟩
          · have Hr' : Hid (nodeOk nd at_ wd = ((nr : Int) == 0)) := by
              show nodeOk nd at_ wd = ((nr : Int) == 0)
              rw [Hr.out, if_neg hk0, Bool.eq_iff_iff]
              simp
            have hb0 : (nd.kind == 0) = false := by simpa using hk0
            clear hk0 Hr
            go_wp2_with fail
            go_ret
            exact ⟨by rw [Hr'.out]; rfl, gb_drewN hG.out _⟩
    · have hv' : rowValid nd.row = false := by simpa using hv
      have Hr : Hid (nodeOk nd at_ wd = false) := by
        show nodeOk nd at_ wd = false
        unfold nodeOk
        rw [hv']
        simp
      have Hv := Lib.hid hv'
      clear hv hv'
      go_enter Tryz.func126, Tryz.ntmps126
      go_wp2_with fail
      go_quiet ((first
        | (go_at_call 147; exact quiet_l (specKindNeeds_any _ _))
        | (go_at_call 148; exact quiet_l (specRowValid_b _ _ _ (by exact hrW) Hv.out))))
      go_wp2_with fail
      go_ret
      exact ⟨by rw [Hr.out]; rfl, gb_drewN hG.out _⟩
  · have hb : (kindNeeds nd.kind != (nf : Int)) = true := by simpa using hk
    have Hr : Hid (nodeOk nd at_ wd = false) := by
      show nodeOk nd at_ wd = false
      unfold nodeOk
      rw [show decide (kindNeeds nd.kind = (nd.frm.length : Int)) = false by rw [← Hnf.out]; simpa using hk]
      simp
    clear hk
    go_enter Tryz.func126, Tryz.ntmps126
    go_wp2_with fail
    go_quiet ((first
      | (go_at_call 147; exact quiet_l (specKindNeeds_any _ _))
      | (go_at_call 148; exact quiet_l (specRowValid_any _ _ _ (by exact hrW)))))
    go_wp2_with fail
    go_ret
    exact ⟨by rw [Hr.out]; rfl, gb_drewN hG.out _⟩

theorem l3Node_b (v : Value) (nd : Node) (at_ : Int) (wd : Nat) (w : World) (h : NV w v nd) (ha0 : 0 ≤ at_) (ha1 : at_ ≤ 1000000000) {b : Bool} (hb : nodeOk nd at_ wd = b) :
    Calls Tryz.prog 126 #[v, .int .i64 at_, .int .i64 wd] w fun e w' => e = .returned (.bool b) ∧ w.grownBy w' none := hb ▸ l3Node_any v nd at_ wd w h ha0 ha1

set_option maxHeartbeats 400000 in
theorem specPlanValid_any (v : Value) (plan : List Node) (w : World) (h : RN w v plan) (hl : plan.length ≤ 1000000000) :
    Calls Tryz.prog 96 #[v] w fun e w' => e = .returned (.bool (planValid plan)) ∧ w.grownBy w' none := by
  obtain ⟨A, n, c, rfl, _, hn, _⟩ := h.form'
  rw [← hn] at hl
  have Hn := Lib.hid hn
  clear hn
  go_enter Tryz.func96, Tryz.ntmps96
  go_wp2_with fail
  go_loopw [3] (fun i wr => ∃ k : Nat, k ≤ n ∧ i = .int .i64 k ∧ (plan.zipIdx.take k).all (fun x => nodeOk x.1 x.2 (wide plan)) = true ∧ w.grownBy wr none) (fun i _ => n - (intOf i).toNat)
  case atStart => exact ⟨0, Nat.zero_le _, rfl, rfl, gb_refl _ _⟩
  case round =>
    obtain ⟨k, hk, rfl, hall, hg⟩ := hrel
    have Hall := Lib.hid hall
    clear hall
    have hwr := h.new hg
    by_cases hlt : k < n
    · obtain ⟨g, o, nd, f, r, rfl, hx, c0, c1, c2, hf, hr⟩ := hwr.at_ hlt
      have Hx := Lib.hid hx
      clear hx
      have hnv : NV wr (.agg #[.int .i64 nd.kind, f, r]) nd := ⟨f, r, rfl, hf, hr⟩
      by_cases hno : nodeOk nd k (wide plan) = true
      · have Hno := Lib.hid hno
        clear hno
        go_wp2_with fail
        go_region_held3 (fun w' => w'.cell? ⟨g, o + k * 3, none⟩ = some (.int .i64 nd.kind) ∧ w'.cell? ⟨g, o + k * 3 + 1, none⟩ = some f ∧ w'.cell? ⟨g, o + k * 3 + 2, none⟩ = some r) (go_keep)
          (first
            | (go_at_call 127; refine (l3Wide_any _ plan _ (by exact hwr)).mono ?_; rintro e w' ⟨rfl, rfl⟩)
            | (go_at_call 126; refine (l3Node_b _ nd k (wide plan) _ (by exact hnv) (by omega) (by omega) Hno.out).mono ?_; rintro e w' ⟨rfl, hg'⟩; have k0 := hg'.cell (by exact c0) (by simp); have k1 := hg'.cell (by exact c1) (by simp); have k2 := hg'.cell (by exact c2) (by simp)))
        go_wp2_with fail
        go_roundw
        case rel => exact ⟨k + 1, by omega, by go_num, by rw [all_snoc _ (zipIdx_get Hx.out), Hall.out]; exact Hno.out, gb_trans (gb_drew hg) (by assumption)⟩
        case measure => simp [intOf]; omega
      · have hno' : nodeOk nd k (wide plan) = false := by simpa using hno
        have Hno := Lib.hid hno'
        have Hr : Hid (planValid plan = false) := by
          show planValid plan = false
          have : plan.zipIdx.all (fun x => nodeOk x.1 x.2 (wide plan)) = false := by
            rw [List.all_eq_false]
            exact ⟨(nd, k), List.mem_of_getElem? (zipIdx_get Hx.out), hno⟩
          unfold planValid
          rw [this]
          simp
        clear hno hno'
        go_wp2_with fail
        go_region_held3 (fun w' => w'.cell? ⟨g, o + k * 3, none⟩ = some (.int .i64 nd.kind) ∧ w'.cell? ⟨g, o + k * 3 + 1, none⟩ = some f ∧ w'.cell? ⟨g, o + k * 3 + 2, none⟩ = some r) (go_keep)
          (first
            | (go_at_call 127; refine (l3Wide_any _ plan _ (by exact hwr)).mono ?_; rintro e w' ⟨rfl, rfl⟩)
            | (go_at_call 126; refine (l3Node_b _ nd k (wide plan) _ (by exact hnv) (by omega) (by omega) Hno.out).mono ?_; rintro e w' ⟨rfl, hg'⟩; have k0 := hg'.cell (by exact c0) (by simp); have k1 := hg'.cell (by exact c1) (by simp); have k2 := hg'.cell (by exact c2) (by simp)))
        go_wp2_with fail
        go_ret
        exact ⟨by rw [Hr.out]; rfl, gb_trans (gb_drew hg) (by assumption)⟩
    · have Hr : Hid (planValid plan = decide ((n : Int) ≤ 10)) := by
        show planValid plan = decide ((n : Int) ≤ 10)
        have h1 := Hall.out
        rw [List.take_of_length_le (by rw [List.length_zipIdx, ← Hn.out]; omega)] at h1
        unfold planValid
        rw [h1, Bool.true_and, ← Hn.out]
        exact decide_eq_decide.2 (by omega)
      go_wp2_with fail
      go_ret
      exact ⟨by rw [Hr.out]; rfl, hg⟩
theorem specPlanValid_b (v : Value) (plan : List Node) (w : World) (h : RN w v plan) (hl : plan.length ≤ 1000000000) {b : Bool} (hb : planValid plan = b) :
    Calls Tryz.prog 96 #[v] w fun e w' => e = .returned (.bool b) ∧ w.grownBy w' none := hb ▸ specPlanValid_any v plan w h hl
end Go.Proofs.YtihobnheficpjaaGreatDoor
namespace Go.Proofs.YtihobnheficpjaaGreatDoor
open Go.RowKit

/-- A drawn plan: a new one, nothing that was there turned. -/
def DrawPlan (w : World) (e : Ending) (w' : World) : Prop := ∃ v plan, e = .returned v ∧ RN w' v plan ∧ smallPlan plan ∧ w.grownBy w' none


/-- The sum of the needs of the first k nodes. -/
def fsum (plan : List Node) (k : Nat) : Int := ((plan.take k).map (fun x => (x.frm.length : Int))).sum
theorem fsum_succ {plan : List Node} {k : Nat} {nd : Node} (h : plan[k]? = some nd) : fsum plan (k + 1) = fsum plan k + nd.frm.length := by
  obtain ⟨hk, rfl⟩ := List.getElem?_eq_some_iff.1 h
  unfold fsum
  rw [List.take_succ_eq_append_getElem hk, List.map_append, List.sum_append]
  simp
theorem fsum_bound {plan : List Node} (hv : planValid plan = true) (k : Nat) : 0 ≤ fsum plan k ∧ fsum plan k ≤ 2 * k := by
  induction k with
  | zero => simp [fsum]
  | succ k ih =>
    cases h : plan[k]? with
    | none =>
      have : plan.length ≤ k := by simpa using h
      have e : fsum plan (k + 1) = fsum plan k := by unfold fsum; rw [List.take_of_length_le (by omega), List.take_of_length_le this]
      omega
    | some nd =>
      have := (planValid_node hv h).2.1
      rw [fsum_succ h]
      omega
theorem fsum_all {plan : List Node} (hv : planValid plan = true) : fsum plan plan.length = countNeeds plan := by
  unfold fsum countNeeds
  rw [if_pos hv, List.take_of_length_le (Nat.le_refl _)]

end Go.Proofs.YtihobnheficpjaaGreatDoor
