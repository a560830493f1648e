/- Walks: spec.CountWide, impl.LevelsOf. · Walks: impl.allIn, impl.ReadyOf. · Plain facts: the table of counts, user by user. Conditions: none. -/
import Derived.Test.YtihobnheficpjaaGreatM09
import Derived.Test.YtihobnheficpjaaGreatM23
import Derived.Test.YtihobnheficpjaaGreatM04
namespace Go.Proofs.YtihobnheficpjaaGreat
open Go.RowKit

end Go.Proofs.YtihobnheficpjaaGreat
namespace Go.Proofs.YtihobnheficpjaaGreat
open Go.RowKit

/-- The cells of ten marks. -/
def marks (f : Nat → Bool) : Array Value := #[.bool (f 0), .bool (f 1), .bool (f 2), .bool (f 3), .bool (f 4), .bool (f 5), .bool (f 6), .bool (f 7), .bool (f 8), .bool (f 9)]
theorem marks_get (f : Nat → Bool) {k : Nat} (h : k < 10) : (marks f)[k]? = some (.bool (f k)) := by
  rcases (show k = 0 ∨ k = 1 ∨ k = 2 ∨ k = 3 ∨ k = 4 ∨ k = 5 ∨ k = 6 ∨ k = 7 ∨ k = 8 ∨ k = 9 by omega) with rfl | rfl | rfl | rfl | rfl | rfl | rfl | rfl | rfl | rfl
  all_goals rfl
def putMark (f : Nat → Bool) (k : Nat) : Nat → Bool := fun i => decide (i = k) || f i
theorem marks_set (f : Nat → Bool) {k : Nat} (h : k < 10) : (marks f).setIfInBounds k (.bool true) = marks (putMark f k) := by
  rcases (show k = 0 ∨ k = 1 ∨ k = 2 ∨ k = 3 ∨ k = 4 ∨ k = 5 ∨ k = 6 ∨ k = 7 ∨ k = 8 ∨ k = 9 by omega) with rfl | rfl | rfl | rfl | rfl | rfl | rfl | rfl | rfl | rfl
  all_goals rfl
/-- Ten marks in block gb. -/
def MK (w : World) (gb : Nat) (f : Nat → Bool) : Prop := Blk w gb 49 (marks f)
theorem MK.cell {w : World} {gb : Nat} {f : Nat → Bool} (h : MK w gb f) {k : Nat} (hk : k < 10) : w.cell? ⟨gb, k, none⟩ = some (.bool (f k)) := (Blk.cell h k).trans (marks_get f hk)
theorem allIn_any (v : Value) (l : List Int) (gb : Nat) (f : Nat → Bool) (w : World) (h : RI w v l) (hm : MK w gb f) (hin : ∀ x ∈ l, 0 ≤ x ∧ x < 10) {b : Bool} (hb : l.all (fun x => f x.toNat) = b) :
    Calls Tryz.prog 25 #[v, .pointer (some ⟨gb, 0, none⟩)] w fun e w' => e = .returned (.bool b) ∧ w = w' := by
  obtain ⟨A, n, c, rfl, -, hn⟩ := h.form'
  have hle := h.le
  rw [← hn] at hle
  have Hn := Lib.hid hn
  have Hb := Lib.hid hb
  have Hin := Lib.hid hin
  clear hn hb hin
  go_enter Tryz.func25, Tryz.ntmps25
  go_wp2_with fail
  go_loopg [9] (n + 1) (fun m i wx => ∃ k : Nat, k ≤ n ∧ m = n + 1 - k ∧ i = .int .i64 k ∧ Hid ((l.take k).all (fun x => f x.toNat) = true) ∧ wx = w)
  case atStart => exact ⟨0, Nat.zero_le _, rfl, rfl, rfl, rfl⟩
  case round =>
    obtain ⟨k, hk, rfl, rfl, Hall, hw⟩ := hrel
    subst hw
    by_cases hlt : k < n
    · obtain ⟨g, o, x, rfl, hx, c0⟩ := h.at_ hlt
      have hxb := Hin.out x (List.mem_of_getElem? hx)
      obtain ⟨q, rfl⟩ := Int.eq_ofNat_of_zero_le hxb.1
      have hq : q < 10 := by omega
      have c1 := hm.cell hq
      have Hx := Lib.hid hx
      clear hx hxb
      by_cases hf : f q = true
      · have Hall2 : Hid ((l.take (k + 1)).all (fun x => f x.toNat) = true) := by
          show _ = _
          rw [all_snoc _ Hx.out, Hall.out, Int.toNat_natCast, hf]
          rfl
        rw [hf] at c1
        clear hf
        go_wp2_with fail
        go_roundg (n + 1 - (k + 1))
        case measure => omega
        case rel => exact ⟨k + 1, by omega, rfl, by go_num, Hall2, rfl⟩
      · have hf' : f q = false := by simpa using hf
        have Hr : Hid (b = false) := by
          show b = false
          rw [← Hb.out, List.all_eq_false]
          exact ⟨_, List.mem_of_getElem? Hx.out, by simpa using hf'⟩
        rw [hf'] at c1
        clear hf hf'
        go_wp2_with fail
        go_ret
        exact ⟨by rw [Hr.out]; rfl, rfl⟩
    · obtain rfl : k = n := by omega
      have Hr : Hid (b = true) := by
        show b = true
        rw [← Hb.out]
        have := Hall.out
        rw [List.take_of_length_le (by rw [← Hn.out]; exact Nat.le_refl _)] at this
        exact this
      go_wp2_with fail
      go_ret
      exact ⟨by rw [Hr.out]; rfl, rfl⟩
/-- Which of the first n numbers are in a list. -/
def inList (n : Nat) (l : List Int) (i : Nat) : Bool := decide (i < n) && decide ((i : Int) ∈ l)
theorem inList_snoc (n : Nat) {l : List Int} {k : Nat} {x : Int} (h : l[k]? = some x) : inList n (l.take (k + 1)) = if 0 ≤ x ∧ x < n then putMark (inList n (l.take k)) x.toNat else inList n (l.take k) := by
  obtain ⟨hk, rfl⟩ := List.getElem?_eq_some_iff.1 h
  funext i
  have e : ((i : Int) ∈ l.take (k + 1)) ↔ (i : Int) ∈ l.take k ∨ (i : Int) = l[k] := by
    rw [List.take_succ_eq_append_getElem hk, List.mem_append, List.mem_singleton]
  split
  · rename_i hx
    unfold inList putMark
    rw [Bool.eq_iff_iff]
    simp only [Bool.and_eq_true, Bool.or_eq_true, decide_eq_true_eq, e]
    constructor
    · rintro ⟨h1, h2 | h2⟩
      · exact .inr ⟨h1, h2⟩
      · left; omega
    · rintro (h1 | ⟨h1, h2⟩)
      · exact ⟨by omega, .inr (by omega)⟩
      · exact ⟨h1, .inl h2⟩
  · rename_i hx
    unfold inList
    rw [Bool.eq_iff_iff]
    simp only [Bool.and_eq_true, decide_eq_true_eq, e]
    constructor
    · rintro ⟨h1, h2 | h2⟩
      · exact ⟨h1, h2⟩
      · exfalso; omega
    · rintro ⟨h1, h2⟩
      exact ⟨h1, .inl h2⟩
set_option maxHeartbeats 400000 in
set_option maxRecDepth 20000 in
theorem readyOf_any (v dv : Value) (plan : List Node) (done : List Int) (w : World) (h : RN w v plan) (hd : RI w dv done) (hv : planValid plan = true) :
    Calls Tryz.prog 8 #[v, dv] w (IntsOut w (readyOf plan done)) := by
  obtain ⟨A, n, c, rfl, -, hn, -⟩ := h.form'
  have hn10 : n ≤ 10 := by have := planValid_len hv; omega
  have Hn := Lib.hid hn
  have Hv := Lib.hid hv
  have hdl := hd.le
  obtain ⟨Ad, m, cd, rfl, -, hm⟩ := hd.form'
  rw [← hm] at hdl
  have Hm := Lib.hid hm
  clear hn hv hm
  go_enter Tryz.func8, Tryz.ntmps8
  go_wp2_with fail
  refine (implPlanValid_b _ plan _ h Hv.out).mono ?_
  rintro e w1 ⟨rfl, hg1⟩
  have hs1 := hg1.size
  have hM0 : MK (w1.alloc (.cells #[.bool false, .bool false, .bool false, .bool false, .bool false, .bool false, .bool false, .bool false, .bool false, .bool false] 49)) w1.heap.size (inList n (done.take 0)) := by
    have e : marks (inList n (done.take 0)) = #[.bool false, .bool false, .bool false, .bool false, .bool false, .bool false, .bool false, .bool false, .bool false, .bool false] := by
      have : inList n (done.take 0) = fun _ => false := by
        funext i
        simp [inList]
      rw [this]
      rfl
    show Blk _ _ _ _
    rw [e]
    exact Blk.new w1 _ _
  have hg2 : w.grownBy (w1.alloc (.cells #[.bool false, .bool false, .bool false, .bool false, .bool false, .bool false, .bool false, .bool false, .bool false, .bool false] 49)) none := gb_alloc hg1 _
  go_wp2_with fail
  go_loopg [16] (m + 1) (fun mm i wr => ∃ k : Nat, k ≤ m ∧ mm = m + 1 - k ∧ i = .int .i64 k ∧ Hid (MK wr w1.heap.size (inList n (done.take k))) ∧ w.grownBy wr none)
  case atStart => exact ⟨0, Nat.zero_le _, rfl, rfl, hM0, hg2⟩
  case round =>
    clear hM0 hg2
    obtain ⟨k, hk, rfl, rfl, HM, hg⟩ := hrel
    by_cases hlt : k < m
    · obtain ⟨g, o, x, rfl, hx, c0⟩ := (hd.new hg).at_ hlt
      have hsn := inList_snoc n hx
      by_cases hxn : 0 ≤ x ∧ x < n
      · rw [if_pos hxn] at hsn
        obtain ⟨q, rfl⟩ := Int.eq_ofNat_of_zero_le hxn.1
        have hq : q < n := by omega
        have c1 := HM.out.cell (k := q) (by omega)
        have f1 : wr.frozen? ⟨w1.heap.size, q, none⟩ = false := Blk.frozen HM.out q
        have HM2 : Hid (MK (wr.setCell ⟨w1.heap.size, q, none⟩ (.bool true)) w1.heap.size (inList n (done.take (k + 1)))) := by
          show Blk _ _ _ _
          rw [hsn, Int.toNat_natCast, ← marks_set _ (by omega)]
          exact Blk.set_ HM.out q _
        have hg2 : w.grownBy (wr.setCell ⟨w1.heap.size, q, none⟩ (.bool true)) none := gb_set (p := ⟨w1.heap.size, q, none⟩) hg (.inl hs1) _
        clear hx hsn HM hxn
        go_wp2_with fail
        refine (isNode_b A n c q _ (b := true) (by simp; omega)).mono ?_
        rintro e w2 ⟨rfl, rfl⟩
        go_wp2_with fail
        go_roundg (m + 1 - (k + 1))
        case measure => omega
        case rel => exact ⟨k + 1, by omega, rfl, by go_num, HM2, hg2⟩
      · rw [if_neg hxn] at hsn
        rw [← hsn] at HM
        have hbn : (decide (0 ≤ x) && decide (x < (n : Int))) = false := by
          rw [Bool.and_eq_false_iff, decide_eq_false_iff_not, decide_eq_false_iff_not]
          omega
        have Hbn := Lib.hid hbn
        clear hx hsn hxn hbn
        go_wp2_with fail
        refine (isNode_b A n c x _ Hbn.out).mono ?_
        rintro e w2 ⟨rfl, rfl⟩
        go_wp2_with fail
        go_roundg (m + 1 - (k + 1))
        case measure => omega
        case rel => exact ⟨k + 1, by omega, rfl, by go_num, HM, hg⟩
    · obtain rfl : k = m := by omega
      have HM2 : Hid (MK wr w1.heap.size (inList n done)) := by
        have := HM.out
        rw [List.take_of_length_le (by rw [← Hm.out]; exact Nat.le_refl _)] at this
        exact this
      clear HM
      obtain ⟨wo, rfl⟩ : ∃ wo : World, wo = wr := ⟨_, rfl⟩
      go_wp2_with fail
      go_loopg [8, 28] (n + 1) (fun mm r i wr => ∃ t : Nat, t ≤ n ∧ mm = n + 1 - t ∧ i = .int .i64 t ∧ OwnI wr w.heap.size r (readyTo plan done t) ∧ Hid (MK wr w1.heap.size (inList n done)) ∧ w.grownBy wr none)
      case atStart => exact ⟨0, Nat.zero_le _, rfl, rfl, OwnI.nil _ _, HM2, hg⟩
      case round =>
        clear HM2 hg
        obtain ⟨t, ht, rfl, rfl, ho, HM, hg⟩ := hrel
        obtain ⟨Ar, nr, cr, rfl⟩ := ho.ri.val
        have hrl := readyTo_len plan done t
        by_cases htn : t < n
        · obtain ⟨g, o, nd, f, r, rfl, hx, c0, c1, c2, hf, hr⟩ := (h.new hg).at_ htn
          have hfit := (planValid_node Hv.out hx).1
          have c3 := HM.out.cell (k := t) (by omega)
          obtain ⟨Af, nf, cf, rfl⟩ := hf.val
          obtain ⟨Arr, nrr, crr, rfl⟩ := hr.val
          have hin : inList n done t = decide ((t : Int) ∈ done) := by simp [inList, htn]
          rw [hin] at c3
          have hall : nd.frm.all (fun x => inList n done x.toNat) = nd.frm.all (fun x => decide (x ∈ done)) := by
            rw [Bool.eq_iff_iff, List.all_eq_true, List.all_eq_true]
            have key : ∀ x ∈ nd.frm, inList n done x.toNat = decide (x ∈ done) := by
              intro x hx'
              have := nodeFits_mem hfit hx'
              unfold inList
              rw [Int.toNat_of_nonneg this.1, decide_eq_true (show x.toNat < n by omega), Bool.true_and]
            constructor
            · intro h1 x hx'
              rw [← key x hx']
              exact h1 x hx'
            · intro h1 x hx'
              rw [key x hx']
              exact h1 x hx'
          have Hin := Lib.hid (fun x (hx' : x ∈ nd.frm) => (show 0 ≤ x ∧ x < 10 from by have := nodeFits_mem hfit hx'; omega))
          have hsn := readyTo_succ done hx
          have hrn : readyNode done (nd, t) = (!decide ((t : Int) ∈ done) && nd.frm.all (fun x => decide (x ∈ done))) := rfl
          rw [hrn] at hsn
          have Hsn := Lib.hid hsn
          have hgA := World.grownBy_alloc wr (.cells #[.int .i64 nd.kind, .slice Af nf cf, .slice Arr nrr crr] 52) none
          have HM2 : Hid (MK (wr.alloc (.cells #[.int .i64 nd.kind, .slice Af nf cf, .slice Arr nrr crr] 52)) w1.heap.size (inList n done)) := Blk.alloc HM.out _
          have hoA := ho.alloc (.cells #[.int .i64 nd.kind, .slice Af nf cf, .slice Arr nrr crr] 52)
          have hfA := hf.alloc (.cells #[.int .i64 nd.kind, .slice Af nf cf, .slice Arr nrr crr] 52)
          have hgB := gb_trans hg hgA
          have c4 : (wr.alloc (.cells #[.int .i64 nd.kind, .slice Af nf cf, .slice Arr nrr crr] 52)).cell? ⟨w1.heap.size, t, none⟩ = some (.bool (decide ((t : Int) ∈ done))) := by
            have := HM2.out.cell (k := t) (by omega)
            rw [hin] at this
            exact this
          clear hx hsn hrn hin hr hfit c3 HM ho hg hgA hf
          by_cases hd0 : (t : Int) ∈ done
          · rw [decide_eq_true hd0] at Hsn c4
            have Hsn2 : Hid (readyTo plan done (t + 1) = readyTo plan done t) := by
              show _ = _
              rw [Hsn.out, Bool.not_true, Bool.false_and, if_neg (by simp)]
            clear hd0 Hsn
            go_wp2_with fail
            go_roundg (n + 1 - (t + 1))
            case measure => omega
            case rel => exact ⟨t + 1, by omega, rfl, by go_num, by rw [Hsn2.out]; exact hoA, HM2, hgB⟩
          · rw [decide_eq_false hd0] at Hsn c4
            clear hd0
            by_cases ha : nd.frm.all (fun x => decide (x ∈ done)) = true
            · have Hsn2 : Hid (readyTo plan done (t + 1) = readyTo plan done t ++ [(t : Int)]) := by
                show _ = _
                rw [Hsn.out, Bool.not_false, Bool.true_and, if_pos ha]
              have Ha := Lib.hid (hall.trans ha)
              clear ha Hsn hall
              go_wp2_with fail
              refine (allIn_any _ nd.frm w1.heap.size (inList n done) _ hfA HM2.out Hin.out Ha.out).mono ?_
              rintro e w2 ⟨rfl, rfl⟩
              go_wp2_with (at_builtin; go_must (refine wp_push_int_n (.tmp 42) (.tmp 44) rfl rfl hoA (by omega) hgB.size rfl rfl (World.size_alloc ..).symm ?_))
              intro v' w4 hown4 hg4
              have hg5 := hoA.gb hgB hg4 (Nat.le_refl _)
              have HM4 : Hid (MK w4 w1.heap.size (inList n done)) := Blk.grown HM2.out hg4 (fun e => hoA.notE (show 49 ≠ 3 by decide) _ e.symm _ HM2.out)
              rw [← Hsn2.out] at hown4
              go_wp2_with fail
              go_roundg (n + 1 - (t + 1))
              case measure => omega
              case rel => exact ⟨t + 1, by omega, rfl, by go_num, hown4, HM4, hg5⟩
            · have ha' : nd.frm.all (fun x => decide (x ∈ done)) = false := by simpa using ha
              have Hsn2 : Hid (readyTo plan done (t + 1) = readyTo plan done t) := by
                show _ = _
                rw [Hsn.out, Bool.not_false, Bool.true_and, if_neg ha]
              have Ha := Lib.hid (hall.trans ha')
              clear ha ha' Hsn hall
              go_wp2_with fail
              refine (allIn_any _ nd.frm w1.heap.size (inList n done) _ hfA HM2.out Hin.out Ha.out).mono ?_
              rintro e w2 ⟨rfl, rfl⟩
              go_wp2_with fail
              go_roundg (n + 1 - (t + 1))
              case measure => omega
              case rel => exact ⟨t + 1, by omega, rfl, by go_num, by rw [Hsn2.out]; exact hoA, HM2, hgB⟩
        · obtain rfl : t = n := by omega
          have ho2 : OwnI wr w.heap.size (.slice Ar nr cr) (readyOf plan done) := by
            unfold readyOf
            rw [if_pos Hv.out, ← Hn.out]
            exact ho
          clear ho
          go_wp2_with fail
          go_ret
          exact ⟨_, rfl, ho2, hg⟩
end Go.Proofs.YtihobnheficpjaaGreat
namespace Go.Proofs.YtihobnheficpjaaGreat
/-- How many of what node i needs come ahead of node k. -/
def tabTo (plan : List Node) (k : Nat) (i : Nat) : Int := ((needsOf plan i).countP (fun f : Nat => decide (f < k)) : Nat)
/-- .. and the first t users of node k. -/
def tabMid (plan : List Node) (k t : Nat) (i : Nat) : Int := tabTo plan k i + if i ∈ (usersOf plan k).take t then 1 else 0
def putN (f : Nat → Int) (u : Nat) (x : Int) : Nat → Int := fun i => if i = u then x else f i
theorem tabTo_zero (plan : List Node) : tabTo plan 0 = fun _ => 0 := by
  funext i
  unfold tabTo
  rw [List.countP_eq_zero.2 (by simp)]
  rfl
theorem tabMid_zero (plan : List Node) (k : Nat) : tabMid plan k 0 = tabTo plan k := by
  funext i
  unfold tabMid
  simp
theorem countP_succ_mem {l : List Nat} (hn : l.Nodup) (k : Nat) : l.countP (fun f => decide (f < k + 1)) = l.countP (fun f => decide (f < k)) + if k ∈ l then 1 else 0 := by
  induction l with
  | nil => simp
  | cons a r ih =>
    obtain ⟨h1, h2⟩ := List.nodup_cons.1 hn
    have ih := ih h2
    rw [List.countP_cons, List.countP_cons, ih]
    by_cases e : a = k
    · subst e
      rw [if_neg h1]
      simp
    · have hm : (k ∈ a :: r) ↔ k ∈ r := ⟨fun h => by rcases List.mem_cons.1 h with h | h; exact absurd h.symm e; exact h, List.mem_cons_of_mem _⟩
      have hd : decide (a < k + 1) = decide (a < k) := by rw [decide_eq_decide]; omega
      simp only [hm, hd]
      omega
theorem tabMid_all {plan : List Node} {k t : Nat} (hv : planValid plan = true) (ht : (usersOf plan k).length ≤ t) : tabMid plan k t = tabTo plan (k + 1) := by
  funext i
  unfold tabMid tabTo
  rw [List.take_of_length_le ht, countP_succ_mem (needsOf_nodup plan i)]
  by_cases h : k ∈ needsOf plan i
  · have hi : i < plan.length := by
      have := frmAt_mem hv ((mem_needs hv).1 h)
      exact this.2.2
    rw [if_pos (mem_usersOf.2 ⟨hi, h⟩), if_pos h]
    omega
  · rw [if_neg (fun e => h (mem_usersOf.1 e).2), if_neg h]
    omega
theorem tabMid_succ {plan : List Node} {k t u : Nat} (hu : (usersOf plan k)[t]? = some u) : tabMid plan k (t + 1) = putN (tabMid plan k t) u (tabMid plan k t u + 1) := by
  obtain ⟨ht, rfl⟩ := List.getElem?_eq_some_iff.1 hu
  funext i
  have hno : (usersOf plan k)[t] ∉ (usersOf plan k).take t := by
    intro h
    obtain ⟨j, hj, e⟩ := List.mem_take_iff_getElem.1 h
    have := (List.getElem_inj (usersOf_nodup plan k)).1 e
    omega
  unfold putN tabMid
  rw [List.take_succ_eq_append_getElem ht]
  by_cases e : i = (usersOf plan k)[t]
  · rw [if_pos e, if_pos (by rw [e]; exact List.mem_append_right _ (List.mem_singleton.2 rfl)), if_neg hno, e]
    omega
  · rw [if_neg e]
    have : (i ∈ (usersOf plan k).take t ++ [(usersOf plan k)[t]]) ↔ i ∈ (usersOf plan k).take t := by rw [List.mem_append, List.mem_singleton, or_iff_left e]
    simp only [this]
theorem tabMid_in {plan : List Node} (hv : planValid plan = true) (k t i : Nat) : 0 ≤ tabMid plan k t i ∧ tabMid plan k t i ≤ 3 := by
  have h2 : (needsOf plan i).length ≤ 2 := by
    rw [needsOf_frm]
    refine Nat.le_trans (dedup_len _) ?_
    by_cases hi : i < plan.length
    · rw [frmAt_get (List.getElem?_eq_getElem hi)]
      exact (planValid_node hv (List.getElem?_eq_getElem hi)).2.1
    · rw [frmAt_out (by omega)]
      simp
  have h3 : (needsOf plan i).countP (fun f : Nat => decide (f < k)) ≤ (needsOf plan i).length := List.countP_le_length
  unfold tabMid tabTo
  split <;> omega
/-- The whole table. -/
theorem tabTo_all {plan : List Node} (hv : planValid plan = true) (i : Nat) : tabTo plan plan.length i = ((needsOf plan i).length : Int) := by
  unfold tabTo
  rw [List.countP_eq_length.2]
  intro f hf
  have := frmAt_mem hv ((mem_needs hv).1 hf)
  simp only [decide_eq_true_eq]
  omega
theorem tab_counts {plan : List Node} (hv : planValid plan = true) : (List.range plan.length).map (tabTo plan plan.length) = countsOf plan := by
  unfold countsOf
  apply List.map_congr_left
  intro i _
  exact tabTo_all hv i
/-- Counts laid over the table. -/
def laidN (f : Nat → Int) (cs : List Int) : Nat → Int := fun i => cs.getD i (f i)
theorem laidN_get {f : Nat → Int} {cs : List Int} {i : Nat} {c : Int} (h : cs[i]? = some c) : laidN f cs i = c := by
  unfold laidN
  rw [List.getD_eq_getElem?_getD, h]
  rfl
/-! Taking one from each of some counts. -/
def takenTo (f : Nat → Int) (us : List Nat) (t : Nat) : Nat → Int := fun i => f i - if i ∈ us.take t then 1 else 0
def zeroed (f : Nat → Int) (us : List Nat) (t : Nat) : List Int := ((us.take t).filter (fun u => decide (f u = 1))).map (fun u : Nat => (u : Int))
theorem takenTo_zero (f : Nat → Int) (us : List Nat) : takenTo f us 0 = f := by
  funext i
  unfold takenTo
  simp
theorem not_mem_take {us : List Nat} (hn : us.Nodup) {t u : Nat} (hu : us[t]? = some u) : u ∉ us.take t := by
  obtain ⟨ht, rfl⟩ := List.getElem?_eq_some_iff.1 hu
  intro h
  obtain ⟨j, hj, e⟩ := List.mem_take_iff_getElem.1 h
  have := (List.getElem_inj hn).1 e
  omega
theorem takenTo_at {f : Nat → Int} {us : List Nat} (hn : us.Nodup) {t u : Nat} (hu : us[t]? = some u) : takenTo f us t u = f u := by
  unfold takenTo
  rw [if_neg (not_mem_take hn hu)]
  omega
theorem takenTo_succ {f : Nat → Int} {us : List Nat} (hn : us.Nodup) {t u : Nat} (hu : us[t]? = some u) : takenTo f us (t + 1) = putN (takenTo f us t) u (f u - 1) := by
  have hno := not_mem_take hn hu
  obtain ⟨ht, rfl⟩ := List.getElem?_eq_some_iff.1 hu
  funext i
  unfold putN takenTo
  rw [List.take_succ_eq_append_getElem ht]
  by_cases e : i = us[t]
  · rw [if_pos e, if_pos (by rw [e]; exact List.mem_append_right _ (List.mem_singleton.2 rfl)), e]
  · rw [if_neg e]
    have : (i ∈ us.take t ++ [us[t]]) ↔ i ∈ us.take t := by rw [List.mem_append, List.mem_singleton, or_iff_left e]
    simp only [this]
theorem zeroed_succ {f : Nat → Int} {us : List Nat} {t u : Nat} (hu : us[t]? = some u) : zeroed f us (t + 1) = zeroed f us t ++ (if f u = 1 then [(u : Int)] else []) := by
  obtain ⟨ht, rfl⟩ := List.getElem?_eq_some_iff.1 hu
  unfold zeroed
  rw [List.take_succ_eq_append_getElem ht, List.filter_append, List.map_append]
  by_cases h : f us[t] = 1
  · simp [h]
  · simp [h]
theorem zeroed_len (f : Nat → Int) (us : List Nat) (t : Nat) : (zeroed f us t).length ≤ t := by
  unfold zeroed
  rw [List.length_map]
  refine Nat.le_trans (List.length_filter_le _ _) ?_
  rw [List.length_take]
  exact Nat.min_le_left _ _
/-! .. is what CountsDone tells. -/
theorem users_has {plan : List Node} (hv : planValid plan = true) {i x : Nat} : i ∈ usersOf plan x ↔ i < plan.length ∧ has plan i (x : Int) = true := by
  rw [mem_usersOf]
  unfold has
  rw [decide_eq_true_eq, mem_needs hv]
theorem taken_counts {plan : List Node} (hv : planValid plan = true) {cs : List Int} (hl : cs.length = plan.length) (f : Nat → Int) (x t : Nat) (ht : (usersOf plan x).length ≤ t) :
    (List.range plan.length).map (takenTo (laidN f cs) (usersOf plan x) t) = takeCounts plan cs (x : Int) := by
  apply List.ext_getElem?
  intro i
  by_cases hi : i < plan.length
  · have hg : cs[i]? = some cs[i] := List.getElem?_eq_getElem (by omega)
    rw [takeCounts_get hg, List.getElem?_map, List.getElem?_range hi]
    show some _ = _
    congr 1
    unfold takenTo
    rw [List.take_of_length_le ht, laidN_get hg]
    by_cases h : has plan i (x : Int) = true
    · rw [if_pos ((users_has hv).2 ⟨hi, h⟩), if_pos h]
    · rw [if_neg (fun e => h ((users_has hv).1 e).2), if_neg h]
      omega
  · rw [List.getElem?_eq_none (by simp; omega), List.getElem?_eq_none (by rw [takeCounts_len]; omega)]
theorem zeroed_ready {plan : List Node} (hv : planValid plan = true) {cs : List Int} (hl : cs.length = plan.length) (f : Nat → Int) (x t : Nat) (ht : (usersOf plan x).length ≤ t) :
    zeroed (laidN f cs) (usersOf plan x) t = newReady plan cs (x : Int) := by
  unfold zeroed newReady usersOf
  rw [List.take_of_length_le (by unfold usersOf at ht; exact ht), List.filter_filter]
  congr 1
  apply List.filter_congr
  intro i hi
  have hi := List.mem_range.1 hi
  have hg : cs[i]? = some cs[i] := List.getElem?_eq_getElem (by omega)
  have e1 : laidN f cs i = cs.getD i 0 := by rw [laidN_get hg, List.getD_eq_getElem?_getD, hg]; rfl
  have e2 : decide (x ∈ needsOf plan i) = has plan i (x : Int) := by
    unfold has
    rw [decide_eq_decide]
    exact mem_needs hv
  rw [e1, e2, Bool.and_comm]
/-- A user that has no count left stops it. -/
theorem countsFit_zero {plan : List Node} (hv : planValid plan = true) {cs : List Int} {x t u : Nat} (hu : (usersOf plan x)[t]? = some u) (hz : cs.getD u 0 = 0) : countsFit plan cs (x : Int) = false := by
  have hm := (users_has hv).1 (List.mem_of_getElem? hu)
  unfold countsFit
  rw [List.all_eq_false]
  refine ⟨u, List.mem_range.2 hm.1, ?_⟩
  rw [hm.2, hz]
  simp
theorem countsFit_range {plan : List Node} {cs : List Int} {x : Int} {i : Nat} {c : Int} (hi : i < plan.length) (hc : cs[i]? = some c) (h : ¬ (0 ≤ c ∧ c ≤ ((needsOf plan i).length : Int))) : countsFit plan cs x = false := by
  unfold countsFit
  rw [List.all_eq_false]
  refine ⟨i, List.mem_range.2 hi, ?_⟩
  rw [List.getD_eq_getElem?_getD, hc]
  simp only [Option.getD_some, Bool.and_eq_true, decide_eq_true_eq]
  exact fun e => h e.1
theorem countsFit_all {plan : List Node} (hv : planValid plan = true) {cs : List Int} (hl : cs.length = plan.length) {x : Nat} (h1 : ∀ i c, cs[i]? = some c → 0 ≤ c ∧ c ≤ ((needsOf plan i).length : Int)) (h2 : ∀ u ∈ usersOf plan x, cs.getD u 0 ≠ 0) : countsFit plan cs (x : Int) = true := by
  unfold countsFit
  rw [List.all_eq_true]
  intro i hi
  have hi := List.mem_range.1 hi
  have hg : cs[i]? = some cs[i] := List.getElem?_eq_getElem (by omega)
  have hd : cs.getD i 0 = cs[i] := by rw [List.getD_eq_getElem?_getD, hg]; rfl
  have h3 := h1 i _ hg
  rw [hd, decide_eq_true h3.1, decide_eq_true h3.2]
  by_cases h : has plan i (x : Int) = true
  · have := h2 i ((users_has hv).2 ⟨hi, h⟩)
    rw [hd] at this
    simp [this]
  · simp [h]
end Go.Proofs.YtihobnheficpjaaGreat
