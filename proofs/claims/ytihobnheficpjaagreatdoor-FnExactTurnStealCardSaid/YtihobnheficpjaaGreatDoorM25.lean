/- Walks: spec.CountWide, impl.LevelsOf. · Walks: impl.allIn, impl.ReadyOf. · Walks: (plannedCrew).dequesFit. -/
import Derived.Test.YtihobnheficpjaaGreatDoorM13
import Derived.Test.YtihobnheficpjaaGreatDoorM24
namespace Go.Proofs.YtihobnheficpjaaGreatDoor
open Go.RowKit

end Go.Proofs.YtihobnheficpjaaGreatDoor
namespace Go.Proofs.YtihobnheficpjaaGreatDoor
open Go.RowKit

/-- The cells of ten marks. -/
def marks (f : Nat → Bool) : Array Value := #[.bool (f 0), .bool (f 1), .bool (f 2), .bool (f 3), .bool (f 4), .bool (f 5), .bool (f 6), .bool (f 7), .bool (f 8), .bool (f 9)]
theorem marks_get (f : Nat → Bool) {k : Nat} (h : k < 10) : (marks f)[k]? = some (.bool (f k)) := by
  rcases (show k = 0 ∨ k = 1 ∨ k = 2 ∨ k = 3 ∨ k = 4 ∨ k = 5 ∨ k = 6 ∨ k = 7 ∨ k = 8 ∨ k = 9 by omega) with rfl | rfl | rfl | rfl | rfl | rfl | rfl | rfl | rfl | rfl
  all_goals rfl
def putMark (f : Nat → Bool) (k : Nat) : Nat → Bool := fun i => decide (i = k) || f i
theorem marks_set (f : Nat → Bool) {k : Nat} (h : k < 10) : (marks f).setIfInBounds k (.bool true) = marks (putMark f k) := by
  rcases (show k = 0 ∨ k = 1 ∨ k = 2 ∨ k = 3 ∨ k = 4 ∨ k = 5 ∨ k = 6 ∨ k = 7 ∨ k = 8 ∨ k = 9 by omega) with rfl | rfl | rfl | rfl | rfl | rfl | rfl | rfl | rfl | rfl
  all_goals rfl
/-- Ten marks in block gb. -/
def MK (w : World) (gb : Nat) (f : Nat → Bool) : Prop := Blk w gb 101 (marks f)
theorem MK.cell {w : World} {gb : Nat} {f : Nat → Bool} (h : MK w gb f) {k : Nat} (hk : k < 10) : w.cell? ⟨gb, k, none⟩ = some (.bool (f k)) := (Blk.cell h k).trans (marks_get f hk)
theorem allIn_any (v : Value) (l : List Int) (gb : Nat) (f : Nat → Bool) (w : World) (h : RI w v l) (hm : MK w gb f) (hin : ∀ x ∈ l, 0 ≤ x ∧ x < 10) {b : Bool} (hb : l.all (fun x => f x.toNat) = b) :
    Calls Tryz.prog 107 #[v, .pointer (some ⟨gb, 0, none⟩)] w fun e w' => e = .returned (.bool b) ∧ w = w' := by
  obtain ⟨A, n, c, rfl, -, hn⟩ := h.form'
  have hle := h.le
  rw [← hn] at hle
  have Hn := Lib.hid hn
  have Hb := Lib.hid hb
  have Hin := Lib.hid hin
  clear hn hb hin
  go_enter Tryz.func107, Tryz.ntmps107
  go_wp2_with fail
  go_loopg [9] (n + 1) (fun m i wx => ∃ k : Nat, k ≤ n ∧ m = n + 1 - k ∧ i = .int .i64 k ∧ Hid ((l.take k).all (fun x => f x.toNat) = true) ∧ wx = w)
  case atStart => exact ⟨0, Nat.zero_le _, rfl, rfl, rfl, rfl⟩
  case round =>
    obtain ⟨k, hk, rfl, rfl, Hall, hw⟩ := hrel
    subst hw
    by_cases hlt : k < n
    · obtain ⟨g, o, x, rfl, hx, c0⟩ := h.at_ hlt
      have hxb := Hin.out x (List.mem_of_getElem? hx)
      obtain ⟨q, rfl⟩ := Int.eq_ofNat_of_zero_le hxb.1
      have hq : q < 10 := by omega
      have c1 := hm.cell hq
      have Hx := Lib.hid hx
      clear hx hxb
      by_cases hf : f q = true
      · have Hall2 : Hid ((l.take (k + 1)).all (fun x => f x.toNat) = true) := by
          show _ = _
          rw [all_snoc _ Hx.out, Hall.out, Int.toNat_natCast, hf]
          rfl
        rw [hf] at c1
        clear hf
        go_wp2_with fail
        go_roundg (n + 1 - (k + 1))
        case measure => omega
        case rel => exact ⟨k + 1, by omega, rfl, by go_num, Hall2, rfl⟩
      · have hf' : f q = false := by simpa using hf
        have Hr : Hid (b = false) := by
          show b = false
          rw [← Hb.out, List.all_eq_false]
          exact ⟨_, List.mem_of_getElem? Hx.out, by simpa using hf'⟩
        rw [hf'] at c1
        clear hf hf'
        go_wp2_with fail
        go_ret
        exact ⟨by rw [Hr.out]; rfl, rfl⟩
    · obtain rfl : k = n := by omega
      have Hr : Hid (b = true) := by
        show b = true
        rw [← Hb.out]
        have := Hall.out
        rw [List.take_of_length_le (by rw [← Hn.out]; exact Nat.le_refl _)] at this
        exact this
      go_wp2_with fail
      go_ret
      exact ⟨by rw [Hr.out]; rfl, rfl⟩
/-- Which of the first n numbers are in a list. -/
def inList (n : Nat) (l : List Int) (i : Nat) : Bool := decide (i < n) && decide ((i : Int) ∈ l)
theorem inList_snoc (n : Nat) {l : List Int} {k : Nat} {x : Int} (h : l[k]? = some x) : inList n (l.take (k + 1)) = if 0 ≤ x ∧ x < n then putMark (inList n (l.take k)) x.toNat else inList n (l.take k) := by
  obtain ⟨hk, rfl⟩ := List.getElem?_eq_some_iff.1 h
  funext i
  have e : ((i : Int) ∈ l.take (k + 1)) ↔ (i : Int) ∈ l.take k ∨ (i : Int) = l[k] := by
    rw [List.take_succ_eq_append_getElem hk, List.mem_append, List.mem_singleton]
  split
  · rename_i hx
    unfold inList putMark
    rw [Bool.eq_iff_iff]
    simp only [Bool.and_eq_true, Bool.or_eq_true, decide_eq_true_eq, e]
    constructor
    · rintro ⟨h1, h2 | h2⟩
      · exact .inr ⟨h1, h2⟩
      · left; omega
    · rintro (h1 | ⟨h1, h2⟩)
      · exact ⟨by omega, .inr (by omega)⟩
      · exact ⟨h1, .inl h2⟩
  · rename_i hx
    unfold inList
    rw [Bool.eq_iff_iff]
    simp only [Bool.and_eq_true, decide_eq_true_eq, e]
    constructor
    · rintro ⟨h1, h2 | h2⟩
      · exact ⟨h1, h2⟩
      · exfalso; omega
    · rintro ⟨h1, h2⟩
      exact ⟨h1, .inl h2⟩
set_option maxHeartbeats 400000 in
set_option maxRecDepth 20000 in
theorem readyOf_any (v dv : Value) (plan : List Node) (done : List Int) (w : World) (h : RN w v plan) (hd : RI w dv done) (hv : planValid plan = true) :
    Calls Tryz.prog 110 #[v, dv] w (IntsOut w (readyOf plan done)) := by
  obtain ⟨A, n, c, rfl, -, hn, -⟩ := h.form'
  have hn10 : n ≤ 10 := by have := planValid_len hv; omega
  have Hn := Lib.hid hn
  have Hv := Lib.hid hv
  have hdl := hd.le
  obtain ⟨Ad, m, cd, rfl, -, hm⟩ := hd.form'
  rw [← hm] at hdl
  have Hm := Lib.hid hm
  clear hn hv hm
  go_enter Tryz.func110, Tryz.ntmps110
  go_wp2_with fail
  refine (implPlanValid_b _ plan _ h Hv.out).mono ?_
  rintro e w1 ⟨rfl, hg1⟩
  have hs1 := hg1.size
  have hM0 : MK (w1.alloc (.cells #[.bool false, .bool false, .bool false, .bool false, .bool false, .bool false, .bool false, .bool false, .bool false, .bool false] 101)) w1.heap.size (inList n (done.take 0)) := by
    have e : marks (inList n (done.take 0)) = #[.bool false, .bool false, .bool false, .bool false, .bool false, .bool false, .bool false, .bool false, .bool false, .bool false] := by
      have : inList n (done.take 0) = fun _ => false := by
        funext i
        simp [inList]
      rw [this]
      rfl
    show Blk _ _ _ _
    rw [e]
    exact Blk.new w1 _ _
  have hg2 : w.grownBy (w1.alloc (.cells #[.bool false, .bool false, .bool false, .bool false, .bool false, .bool false, .bool false, .bool false, .bool false, .bool false] 101)) none := gb_alloc hg1 _
  go_wp2_with fail
  go_loopg [16] (m + 1) (fun mm i wr => ∃ k : Nat, k ≤ m ∧ mm = m + 1 - k ∧ i = .int .i64 k ∧ Hid (MK wr w1.heap.size (inList n (done.take k))) ∧ w.grownBy wr none)
  case atStart => exact ⟨0, Nat.zero_le _, rfl, rfl, hM0, hg2⟩
  case round =>
    clear hM0 hg2
    obtain ⟨k, hk, rfl, rfl, HM, hg⟩ := hrel
    by_cases hlt : k < m
    · obtain ⟨g, o, x, rfl, hx, c0⟩ := (hd.new hg).at_ hlt
      have hsn := inList_snoc n hx
      by_cases hxn : 0 ≤ x ∧ x < n
      · rw [if_pos hxn] at hsn
        obtain ⟨q, rfl⟩ := Int.eq_ofNat_of_zero_le hxn.1
        have hq : q < n := by omega
        have c1 := HM.out.cell (k := q) (by omega)
        have f1 : wr.frozen? ⟨w1.heap.size, q, none⟩ = false := Blk.frozen HM.out q
        have HM2 : Hid (MK (wr.setCell ⟨w1.heap.size, q, none⟩ (.bool true)) w1.heap.size (inList n (done.take (k + 1)))) := by
          show Blk _ _ _ _
          rw [hsn, Int.toNat_natCast, ← marks_set _ (by omega)]
          exact Blk.set_ HM.out q _
        have hg2 : w.grownBy (wr.setCell ⟨w1.heap.size, q, none⟩ (.bool true)) none := gb_set (p := ⟨w1.heap.size, q, none⟩) hg (.inl hs1) _
        clear hx hsn HM hxn
        go_wp2_with fail
        refine (isNode_b A n c q _ (b := true) (by simp; omega)).mono ?_
        rintro e w2 ⟨rfl, rfl⟩
        go_wp2_with fail
        go_roundg (m + 1 - (k + 1))
        case measure => omega
        case rel => exact ⟨k + 1, by omega, rfl, by go_num, HM2, hg2⟩
      · rw [if_neg hxn] at hsn
        rw [← hsn] at HM
        have hbn : (decide (0 ≤ x) && decide (x < (n : Int))) = false := by
          rw [Bool.and_eq_false_iff, decide_eq_false_iff_not, decide_eq_false_iff_not]
          omega
        have Hbn := Lib.hid hbn
        clear hx hsn hxn hbn
        go_wp2_with fail
        refine (isNode_b A n c x _ Hbn.out).mono ?_
        rintro e w2 ⟨rfl, rfl⟩
        go_wp2_with fail
        go_roundg (m + 1 - (k + 1))
        case measure => omega
        case rel => exact ⟨k + 1, by omega, rfl, by go_num, HM, hg⟩
    · obtain rfl : k = m := by omega
      have HM2 : Hid (MK wr w1.heap.size (inList n done)) := by
        have := HM.out
        rw [List.take_of_length_le (by rw [← Hm.out]; exact Nat.le_refl _)] at this
        exact this
      clear HM
      obtain ⟨wo, rfl⟩ : ∃ wo : World, wo = wr := ⟨_, rfl⟩
      go_wp2_with fail
      go_loopg [8, 28] (n + 1) (fun mm r i wr => ∃ t : Nat, t ≤ n ∧ mm = n + 1 - t ∧ i = .int .i64 t ∧ OwnI wr w.heap.size r (readyTo plan done t) ∧ Hid (MK wr w1.heap.size (inList n done)) ∧ w.grownBy wr none)
      case atStart => exact ⟨0, Nat.zero_le _, rfl, rfl, OwnI.nil _ _, HM2, hg⟩
      case round =>
        clear HM2 hg
        obtain ⟨t, ht, rfl, rfl, ho, HM, hg⟩ := hrel
        obtain ⟨Ar, nr, cr, rfl⟩ := ho.ri.val
        have hrl := readyTo_len plan done t
        by_cases htn : t < n
        · obtain ⟨g, o, nd, f, r, rfl, hx, c0, c1, c2, hf, hr⟩ := (h.new hg).at_ htn
          have hfit := (planValid_node Hv.out hx).1
          have c3 := HM.out.cell (k := t) (by omega)
          obtain ⟨Af, nf, cf, rfl⟩ := hf.val
          obtain ⟨Arr, nrr, crr, rfl⟩ := hr.val
          have hin : inList n done t = decide ((t : Int) ∈ done) := by simp [inList, htn]
          rw [hin] at c3
          have hall : nd.frm.all (fun x => inList n done x.toNat) = nd.frm.all (fun x => decide (x ∈ done)) := by
            rw [Bool.eq_iff_iff, List.all_eq_true, List.all_eq_true]
            have key : ∀ x ∈ nd.frm, inList n done x.toNat = decide (x ∈ done) := by
              intro x hx'
              have := nodeFits_mem hfit hx'
              unfold inList
              rw [Int.toNat_of_nonneg this.1, decide_eq_true (show x.toNat < n by omega), Bool.true_and]
            constructor
            · intro h1 x hx'
              rw [← key x hx']
              exact h1 x hx'
            · intro h1 x hx'
              rw [key x hx']
              exact h1 x hx'
          have Hin := Lib.hid (fun x (hx' : x ∈ nd.frm) => (show 0 ≤ x ∧ x < 10 from by have := nodeFits_mem hfit hx'; omega))
          have hsn := readyTo_succ done hx
          have hrn : readyNode done (nd, t) = (!decide ((t : Int) ∈ done) && nd.frm.all (fun x => decide (x ∈ done))) := rfl
          rw [hrn] at hsn
          have Hsn := Lib.hid hsn
          have hgA := World.grownBy_alloc wr (.cells #[.int .i64 nd.kind, .slice Af nf cf, .slice Arr nrr crr] 94) none
          have HM2 : Hid (MK (wr.alloc (.cells #[.int .i64 nd.kind, .slice Af nf cf, .slice Arr nrr crr] 94)) w1.heap.size (inList n done)) := Blk.alloc HM.out _
          have hoA := ho.alloc (.cells #[.int .i64 nd.kind, .slice Af nf cf, .slice Arr nrr crr] 94)
          have hfA := hf.alloc (.cells #[.int .i64 nd.kind, .slice Af nf cf, .slice Arr nrr crr] 94)
          have hgB := gb_trans hg hgA
          have c4 : (wr.alloc (.cells #[.int .i64 nd.kind, .slice Af nf cf, .slice Arr nrr crr] 94)).cell? ⟨w1.heap.size, t, none⟩ = some (.bool (decide ((t : Int) ∈ done))) := by
            have := HM2.out.cell (k := t) (by omega)
            rw [hin] at this
            exact this
          clear hx hsn hrn hin hr hfit c3 HM ho hg hgA hf
          by_cases hd0 : (t : Int) ∈ done
          · rw [decide_eq_true hd0] at Hsn c4
            have Hsn2 : Hid (readyTo plan done (t + 1) = readyTo plan done t) := by
              show _ = _
              rw [Hsn.out, Bool.not_true, Bool.false_and, if_neg (by simp)]
            clear hd0 Hsn
            go_wp2_with fail
            go_roundg (n + 1 - (t + 1))
            case measure => omega
            case rel => exact ⟨t + 1, by omega, rfl, by go_num, by rw [Hsn2.out]; exact hoA, HM2, hgB⟩
          · rw [decide_eq_false hd0] at Hsn c4
            clear hd0
            by_cases ha : nd.frm.all (fun x => decide (x ∈ done)) = true
            · have Hsn2 : Hid (readyTo plan done (t + 1) = readyTo plan done t ++ [(t : Int)]) := by
                show _ = _
                rw [Hsn.out, Bool.not_false, Bool.true_and, if_pos ha]
              have Ha := Lib.hid (hall.trans ha)
              clear ha Hsn hall
              go_wp2_with fail
              refine (allIn_any _ nd.frm w1.heap.size (inList n done) _ hfA HM2.out Hin.out Ha.out).mono ?_
              rintro e w2 ⟨rfl, rfl⟩
              go_wp2_with (at_builtin; go_must (refine wp_push_int_n (.tmp 42) (.tmp 44) rfl rfl hoA (by omega) hgB.size rfl rfl (World.size_alloc ..).symm ?_))
              intro v' w4 hown4 hg4
              have hg5 := hoA.gb hgB hg4 (Nat.le_refl _)
              have HM4 : Hid (MK w4 w1.heap.size (inList n done)) := Blk.grown HM2.out hg4 (fun e => hoA.notE (show 101 ≠ 3 by decide) _ e.symm _ HM2.out)
              rw [← Hsn2.out] at hown4
              go_wp2_with fail
              go_roundg (n + 1 - (t + 1))
              case measure => omega
              case rel => exact ⟨t + 1, by omega, rfl, by go_num, hown4, HM4, hg5⟩
            · have ha' : nd.frm.all (fun x => decide (x ∈ done)) = false := by simpa using ha
              have Hsn2 : Hid (readyTo plan done (t + 1) = readyTo plan done t) := by
                show _ = _
                rw [Hsn.out, Bool.not_false, Bool.true_and, if_neg ha]
              have Ha := Lib.hid (hall.trans ha')
              clear ha ha' Hsn hall
              go_wp2_with fail
              refine (allIn_any _ nd.frm w1.heap.size (inList n done) _ hfA HM2.out Hin.out Ha.out).mono ?_
              rintro e w2 ⟨rfl, rfl⟩
              go_wp2_with fail
              go_roundg (n + 1 - (t + 1))
              case measure => omega
              case rel => exact ⟨t + 1, by omega, rfl, by go_num, by rw [Hsn2.out]; exact hoA, HM2, hgB⟩
        · obtain rfl : t = n := by omega
          have ho2 : OwnI wr w.heap.size (.slice Ar nr cr) (readyOf plan done) := by
            unfold readyOf
            rw [if_pos Hv.out, ← Hn.out]
            exact ho
          clear ho
          go_wp2_with fail
          go_ret
          exact ⟨_, rfl, ho2, hg⟩
end Go.Proofs.YtihobnheficpjaaGreatDoor
namespace Go.Proofs.YtihobnheficpjaaGreatDoor
open Go.RowKit

theorem readyOf_le (plan : List Node) (D : List Int) (hv : planValid plan = true) : (readyOf plan D).length ≤ 10 := by
  have h := readyOf_len plan D
  have := planValid_len hv
  omega
def DequesOut (w : World) (plan : List Node) (c : Crew) (e : Ending) (w' : World) : Prop := ∃ b, e = .returned (.bool b) ∧ (b = true ↔ c.deques.flatten.Perm (readyOf plan c.done)) ∧ w.grownBy w' none
set_option maxHeartbeats 1600000 in
set_option maxRecDepth 20000 in
theorem implDequesFit_any (v : Value) (plan : List Node) (vs : List (List Int)) (c : Crew) (w : World) (h : PCV w v plan vs c) (hv : planValid plan = true) (hd4 : c.deques.length ≤ 4) (hfit : ∀ d ∈ c.deques, d.length ≤ 1048576) :
    Calls Tryz.prog 60 #[v] w (DequesOut w plan c) := by
  obtain ⟨A0, n0, c0, A5, n5, c5, A1, n1, c1, A2, n2, c2, A3, n3, c3, A4, n4, c4, rfl, h0, h5, h1, h2, h3, h4⟩ := h
  have hB := Blk.new w 78 #[.slice A0 n0 c0, .slice A5 n5 c5, .slice A1 n1 c1, .slice A2 n2 c2, .slice A3 n3 c3, .slice A4 n4 c4]
  have hg := World.grownBy_alloc w (.cells #[.slice A0 n0 c0, .slice A5 n5 c5, .slice A1 n1 c1, .slice A2 n2 c2, .slice A3 n3 c3, .slice A4 n4 c4] 78) none
  have Hv := Lib.hid hv
  have hn1 := h1.len
  have hn14 : n1 ≤ 4 := by omega
  have Hn1 := Lib.hid hn1
  have Hfit := Lib.hid hfit
  have H4 := Lib.hid hd4
  clear h5 h2 h4 hv hn1 hfit hd4
  have k0 := h0.new hg
  have k1 := h1.new hg
  have k3 := h3.new hg
  clear h0 h1 h3
  go_enter Tryz.func60, Tryz.ntmps60
  go_upto_region 1 with fail
  generalize w.alloc (.cells #[.slice A0 n0 c0, .slice A5 n5 c5, .slice A1 n1 c1, .slice A2 n2 c2, .slice A3 n3 c3, .slice A4 n4 c4] 78) = W at hB hg k0 k1 k3 ⊢
  have q0 := hB.cell 0
  have q4 := hB.cell 4
  go_wp2_with fail
  refine (readyOf_any _ _ plan c.done W k0 k3 Hv.out).mono ?_
  rintro e w1 ⟨rv, rfl, ho1, hg1⟩
  obtain ⟨Ar, nr, cr, rfl, hnr, hlr⟩ := ho1.ri.form'
  have hnr10 : nr ≤ 10 := by have := readyOf_le plan c.done Hv.out; omega
  have Hlr := Lib.hid hlr
  have B1 := hB.grown hg1 (by simp)
  have q2 := B1.cell 2
  have m1 := k1.new hg1
  have g1 := gb_trans hg hg1
  clear k0 k1 k3 hB hg hg1 q0 q4 hlr
  go_wp2_with fail
  go_loopg [4, 19] (n1 + 1) (fun mm s i wr => ∃ (k z : Nat), k ≤ n1 ∧ mm = n1 + 1 - k ∧ i = .int .i64 k ∧ s = .int .i64 z ∧ w1 = wr ∧ z ≤ nr ∧ Hid (z = (c.deques.take k).flatten.length))
  case atStart => exact ⟨0, 0, Nat.zero_le _, rfl, rfl, rfl, rfl, Nat.zero_le _, rfl⟩
  case round =>
    obtain ⟨k, z, hk, rfl, rfl, rfl, rfl, hz, Hz⟩ := hrel
    by_cases hlt : k < n1
    · obtain ⟨g, o, l, B, m, e, rfl, hx, x0, hr, hm, -, -⟩ := m1.at_ hlt
      have hz2 : Hid (z + m = (c.deques.take (k + 1)).flatten.length) := by show _ = _; rw [flat_succ hx, List.length_append, ← Hz.out, hm]
      have hmb : m ≤ 1048576 := by have := Hfit.out l (List.mem_of_getElem? hx); omega
      clear hx hr hm
      by_cases hbig : nr < z + m
      · have hno : Hid (¬ c.deques.flatten.Perm (readyOf plan c.done)) := fun hp => by
          have h1 := hp.length_eq
          have h2 := flat_le c.deques (k + 1)
          have h3 := hz2.out
          have h4 := Hlr.out
          omega
        clear hz2
        go_wp2_with fail
        go_ret
        exact ⟨false, rfl, ⟨fun e2 => (by cases e2), fun e2 => absurd e2 hno.out⟩, g1⟩
      · go_wp2_with fail
        go_roundg (n1 + 1 - (k + 1))
        case measure => omega
        case rel => exact ⟨k + 1, z + m, by omega, rfl, by go_num, by go_num, rfl, by omega, hz2⟩
    · obtain rfl : n1 = k := by omega
      have hfl : c.deques.flatten.length ≤ 10 := by
        have := Hz.out
        rw [List.take_of_length_le (Nat.le_of_eq Hn1.out.symm)] at this
        omega
      have hd1000 : c.deques.length ≤ 1000 := by have := H4.out; omega
      clear Hz
      go_wp2_with fail
      refine (concat_any _ c.deques w1 m1 (by omega) hd1000).mono ?_
      rintro e w2 ⟨av, rfl, ho2, hg2⟩
      have ho1' := ho1.new hg2
      obtain ⟨Aa, na, ca, rfl⟩ := ho2.ri.val
      go_wp2_with fail
      refine (sortInts_any _ w1.heap.size c.deques.flatten w2 ho2 (by omega)).mono ?_
      rintro e w3 ⟨rfl, ho3, hg3⟩
      have g3 := gb_new hg2 hg3 (fun g e => .inl (ho2.lt g e).1)
      have hr3 := ho1.ri.new g3
      have g4 := gb_trans g1 g3
      clear ho1 ho1' hg2 hg3 g3 g1 ho2
      by_cases heq : sortRow c.deques.flatten = readyOf plan c.done
      · have He : Hid (decide (sortRow c.deques.flatten = readyOf plan c.done) = true) := decide_eq_true heq
        have hyes : Hid (c.deques.flatten.Perm (readyOf plan c.done)) := sort_ready.1 heq
        clear heq
        go_wp2_with fail
        refine (sEqual_b _ _ _ _ w3 ho3.ri hr3 He.out).mono ?_
        rintro e w4 ⟨rfl, hg4⟩
        go_wp2_with fail
        go_ret
        exact ⟨true, rfl, ⟨fun _ => hyes.out, fun _ => rfl⟩, gb_trans g4 hg4⟩
      · have He : Hid (decide (sortRow c.deques.flatten = readyOf plan c.done) = false) := decide_eq_false heq
        have hno : Hid (¬ c.deques.flatten.Perm (readyOf plan c.done)) := fun hp => heq (sort_ready.2 hp)
        clear heq
        go_wp2_with fail
        refine (sEqual_b _ _ _ _ w3 ho3.ri hr3 He.out).mono ?_
        rintro e w4 ⟨rfl, hg4⟩
        go_wp2_with fail
        go_ret
        exact ⟨false, rfl, ⟨fun e2 => (by cases e2), fun e2 => absurd e2 hno.out⟩, gb_trans g4 hg4⟩
end Go.Proofs.YtihobnheficpjaaGreatDoor
