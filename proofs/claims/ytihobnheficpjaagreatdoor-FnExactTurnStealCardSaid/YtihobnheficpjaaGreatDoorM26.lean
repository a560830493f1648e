/- Walks: impl.orderBegins. · Walks: the laws' marks: markIntS, heldIntS, markNodeS. · Walks: impl.ValuesOf, its closures rowOf (ValuesOf$1) and gather (ValuesOf$2), impl.ValueOf: the rows are the call's own. -/
import Derived.Test.YtihobnheficpjaaGreatDoorM25
import Derived.Test.YtihobnheficpjaaGreatDoorM07
import Derived.Test.YtihobnheficpjaaGreatDoorM17
import Derived.Test.YtihobnheficpjaaGreatDoorM03
import Derived.Deep.LoopGhost
import Derived.Test.YtihobnheficpjaaGreatDoorM09
import Derived.Test.YtihobnheficpjaaGreatDoorM12
namespace Go.Proofs.YtihobnheficpjaaGreatDoor
open Go.RowKit

theorem order_stop {plan : List Node} {D : List Int} {k : Nat} {x : Int} (hx : D[k]? = some x) (h : stepOk plan (D.take k) x = false) : orderOk plan D = false := by
  obtain ⟨hk, rfl⟩ := List.getElem?_eq_some_iff.1 hx
  cases ho : orderOk plan D with
  | false => rfl
  | true => rw [order_step ho hk] at h; cases h
theorem orderTo_next {plan : List Node} {D : List Int} {k : Nat} {x : Int} (hx : D[k]? = some x) (ho : orderTo plan D k = true) (h : stepOk plan (D.take k) x = true) : orderTo plan D (k + 1) = true := by
  rw [orderTo_succ, ho, List.getD_eq_getElem?_getD, hx]
  exact h
/-- A step, its number known: three tests. -/
theorem step_iff {plan : List Node} {D : List Int} {q : Nat} {nd : Node} (hv : planValid plan = true) (hq : plan[q]? = some nd) : stepOk plan D (q : Int) = true ↔ inList plan.length D q = false ∧ nd.frm.all (fun x => inList plan.length D x.toNat) = true := by
  have hql := (List.getElem?_eq_some_iff.1 hq).1
  rw [stepOk_iff, Int.toNat_natCast, frmAt_get hq, List.all_eq_true]
  unfold inList
  constructor
  · rintro ⟨-, -, h3, h4⟩
    refine ⟨by simp [h3], fun f hf => ?_⟩
    have := frmAt_mem hv (i := q) (x := f) (by rw [frmAt_get hq]; exact hf)
    rw [Int.toNat_of_nonneg this.1]
    simp [h4 f hf]
    omega
  · rintro ⟨h3, h4⟩
    refine ⟨Int.natCast_nonneg q, Int.ofNat_lt.2 hql, fun e => by simp [hql, e] at h3, fun f hf => ?_⟩
    have h5 := frmAt_mem hv (i := q) (x := f) (by rw [frmAt_get hq]; exact hf)
    have h6 := h4 f hf
    rw [Int.toNat_of_nonneg h5.1] at h6
    simp only [Bool.and_eq_true, decide_eq_true_eq] at h6
    exact h6.2
set_option maxHeartbeats 1600000 in
set_option maxRecDepth 20000 in
theorem orderBegins_any (v dv : Value) (plan : List Node) (D : List Int) (w : World) (h : RN w v plan) (hd : RI w dv D) (hv : planValid plan = true) :
    Calls Tryz.prog 58 #[v, dv] w fun e w' => e = .returned (.bool (orderOk plan D)) ∧ w.grownBy w' none := by
  obtain ⟨A, n, c, rfl, -, hn, -⟩ := h.form'
  obtain ⟨B, m, c', rfl, -, hm⟩ := hd.form'
  have hle := hd.le
  have hm63 : m ≤ 9223372036854775807 := by omega
  have hn10 : n ≤ 10 := by have := planValid_len hv; omega
  have Hn := Lib.hid hn
  have Hm := Lib.hid hm
  have Hv := Lib.hid hv
  clear hn hm hv hle
  have hM0 : MK (w.alloc (.cells #[.bool false, .bool false, .bool false, .bool false, .bool false, .bool false, .bool false, .bool false, .bool false, .bool false] 101)) w.heap.size (inList n (D.take 0)) := by
    have e : marks (inList n (D.take 0)) = #[.bool false, .bool false, .bool false, .bool false, .bool false, .bool false, .bool false, .bool false, .bool false, .bool false] := by
      have : inList n (D.take 0) = fun _ => false := by
        funext i
        simp [inList]
      rw [this]
      rfl
    show Blk _ _ _ _
    rw [e]
    exact Blk.new w _ _
  have hg0 : w.grownBy (w.alloc (.cells #[.bool false, .bool false, .bool false, .bool false, .bool false, .bool false, .bool false, .bool false, .bool false, .bool false] 101)) none := gb_alloc (gb_refl w none) _
  have fin : ∀ w' b, w.grownBy w' none → orderOk plan D = b → (Ending.returned (.bool b) = .returned (.bool (orderOk plan D)) ∧ w.grownBy w' none) := fun w' b hg hr => ⟨by rw [hr], hg⟩
  go_enter Tryz.func58, Tryz.ntmps58
  go_wp2_with fail
  go_loopg [10] (m + 1) (fun mm i wr => ∃ k : Nat, k ≤ m ∧ mm = m + 1 - k ∧ i = .int .i64 k ∧ Hid (MK wr w.heap.size (inList n (D.take k))) ∧ w.grownBy wr none ∧ Hid (orderTo plan D k = true))
  case atStart => exact ⟨0, Nat.zero_le _, rfl, rfl, hM0, hg0, rfl⟩
  case round =>
    clear hM0 hg0
    obtain ⟨k, hk, rfl, rfl, HM, hg, Ho⟩ := hrel
    by_cases hlt : k < m
    · obtain ⟨g, o, x, rfl, hx, c0⟩ := (hd.new hg).at_ hlt
      have Hx := Lib.hid hx
      clear hx
      by_cases hxn : 0 ≤ x ∧ x < n
      · obtain ⟨q, rfl⟩ := Int.eq_ofNat_of_zero_le hxn.1
        have hq : q < n := by omega
        obtain ⟨gp, op, nd, f, r, rfl, hnd, d0, d1, d2, hf, hr⟩ := (h.new hg).at_ hq
        obtain ⟨Af, nf, cf, rfl⟩ := hf.val
        have Hnd := Lib.hid hnd
        have Hst := Lib.hid (step_iff (D := D.take k) Hv.out hnd)
        have Hin : Hid (∀ x ∈ nd.frm, 0 ≤ x ∧ x < 10) := fun x hx => by
          have := frmAt_mem Hv.out (i := q) (x := x) (by rw [frmAt_get Hnd.out]; exact hx)
          omega
        have c1 := HM.out.cell (k := q) (by omega)
        have f1 : wr.frozen? ⟨w.heap.size, q, none⟩ = false := Blk.frozen HM.out q
        have hb1 : Hid ((decide (0 ≤ (q : Int)) && decide ((q : Int) < (n : Int))) = true) := by show _ = _; simp; omega
        clear hnd hxn hr
        by_cases hmk : inList n (D.take k) q = true
        · have Hr : Hid (orderOk plan D = false) := order_stop Hx.out (by
            cases hs : stepOk plan (D.take k) (q : Int) with
            | false => rfl
            | true =>
              have := (Hst.out.1 hs).1
              rw [← Hn.out, hmk] at this
              cases this)
          rw [hmk] at c1
          clear hmk
          have hfin := Lib.hid (fin wr false hg Hr.out)
          clear fin
          go_wp2_with fail
          refine (isNode_b _ _ _ q _ hb1.out).mono ?_
          rintro e w2 ⟨rfl, rfl⟩
          go_wp2_with fail
          go_ret
          exact hfin.out
        · have hmk' : inList n (D.take k) q = false := by simpa using hmk
          rw [hmk'] at c1
          have Hmk := Lib.hid hmk'
          clear hmk hmk'
          by_cases hal : nd.frm.all (fun x => inList n (D.take k) x.toNat) = true
          · have Hal := Lib.hid hal
            clear hal
            have Ho2 : Hid (orderTo plan D (k + 1) = true) := orderTo_next Hx.out Ho.out (Hst.out.2 ⟨by rw [← Hn.out]; exact Hmk.out, by rw [← Hn.out]; exact Hal.out⟩)
            have HM2 : Hid (MK (wr.setCell ⟨w.heap.size, q, none⟩ (.bool true)) w.heap.size (inList n (D.take (k + 1)))) := by
              show Blk _ _ _ _
              rw [inList_snoc n Hx.out, if_pos ⟨Int.natCast_nonneg q, Int.ofNat_lt.2 hq⟩, Int.toNat_natCast, ← marks_set _ (by omega)]
              exact Blk.set_ HM.out q _
            have hg2 : w.grownBy (wr.setCell ⟨w.heap.size, q, none⟩ (.bool true)) none := gb_set (p := ⟨w.heap.size, q, none⟩) hg (.inl (Nat.le_refl _)) _
            clear fin
            go_wp2_with fail
            refine (isNode_b _ _ _ q _ hb1.out).mono ?_
            rintro e w2 ⟨rfl, rfl⟩
            go_wp2_with fail
            refine (allIn_any _ nd.frm w.heap.size _ wr hf HM.out Hin.out Hal.out).mono ?_
            rintro e w2 ⟨rfl, rfl⟩
            go_wp2_with fail
            go_roundg (m + 1 - (k + 1))
            case measure => omega
            case rel => exact ⟨k + 1, by omega, rfl, by go_num, HM2, hg2, Ho2⟩
          · have hal' : nd.frm.all (fun x => inList n (D.take k) x.toNat) = false := by simpa using hal
            have Hal := Lib.hid hal'
            clear hal hal'
            have Hr : Hid (orderOk plan D = false) := order_stop Hx.out (by
              cases hs : stepOk plan (D.take k) (q : Int) with
              | false => rfl
              | true =>
                have := (Hst.out.1 hs).2
                rw [← Hn.out, Hal.out] at this
                cases this)
            have hfin := Lib.hid (fin wr false hg Hr.out)
            clear fin
            go_wp2_with fail
            refine (isNode_b _ _ _ q _ hb1.out).mono ?_
            rintro e w2 ⟨rfl, rfl⟩
            go_wp2_with fail
            refine (allIn_any _ nd.frm w.heap.size _ wr hf HM.out Hin.out Hal.out).mono ?_
            rintro e w2 ⟨rfl, rfl⟩
            go_wp2_with fail
            go_ret
            exact hfin.out
      · have hbn : (decide (0 ≤ x) && decide (x < (n : Int))) = false := by
          rw [Bool.and_eq_false_iff, decide_eq_false_iff_not, decide_eq_false_iff_not]
          omega
        have Hbn := Lib.hid hbn
        have Hr : Hid (orderOk plan D = false) := order_stop Hx.out (by
          cases hs : stepOk plan (D.take k) x with
          | false => rfl
          | true =>
            have h1 := stepOk_iff.1 hs
            have h2 := Hn.out
            exfalso
            exact hxn ⟨h1.1, by omega⟩)
        have hfin := Lib.hid (fin wr false hg Hr.out)
        clear hbn hxn fin
        go_wp2_with fail
        refine (isNode_b _ _ _ x _ Hbn.out).mono ?_
        rintro e w2 ⟨rfl, rfl⟩
        go_wp2_with fail
        go_ret
        exact hfin.out
    · obtain rfl : m = k := by omega
      have Hr : Hid (orderOk plan D = true) := by
        show orderTo plan D D.length = true
        rw [← Hm.out]
        exact Ho.out
      have hfin := Lib.hid (fin wr true hg Hr.out)
      clear fin
      go_wp2_with fail
      go_ret
      exact hfin.out
end Go.Proofs.YtihobnheficpjaaGreatDoor
namespace Go.Proofs.YtihobnheficpjaaGreatDoor
open Go.RowKit

/-- Of what was there only the blocks from lo to hi may have turned. -/
structure Zn (lo hi : Nat) (w w' : World) : Prop where
  os : w'.os = w.os
  tape : w'.tape = w.tape
  output : w'.output = w.output
  size : w.heap.size ≤ w'.heap.size
  block : ∀ i, i < w.heap.size → (i < lo ∨ hi ≤ i) → w'.heap[i]? = w.heap[i]?
theorem Zn.refl (lo hi : Nat) (w : World) : Zn lo hi w w := ⟨rfl, rfl, rfl, Nat.le_refl _, fun _ _ _ => rfl⟩
theorem Zn.trans {lo hi : Nat} {a b c : World} (h : Zn lo hi a b) (k : Zn lo hi b c) : Zn lo hi a c :=
  ⟨k.os.trans h.os, k.tape.trans h.tape, k.output.trans h.output, Nat.le_trans h.size k.size, fun i hi hr => (k.block i (Nat.lt_of_lt_of_le hi h.size) hr).trans (h.block i hi hr)⟩
theorem Zn.of_gb {lo hi : Nat} {a b : World} {row : Option Nat} (h : a.grownBy b row) (hr : ∀ g, row = some g → lo ≤ g ∧ g < hi) : Zn lo hi a b :=
  ⟨h.os, h.tape, h.output, h.size, fun i hi h' => h.block i hi (fun e => by have := hr i e.symm; omega)⟩
/-- What was there before the zone began stands. -/
theorem Zn.gb {lo hi : Nat} {a b c : World} (h : a.grownBy b none) (k : Zn lo hi b c) (hl : a.heap.size ≤ lo) : a.grownBy c none :=
  ⟨k.os.trans h.os, k.tape.trans h.tape, k.output.trans h.output, Nat.le_trans h.size k.size, fun i hi _ => (k.block i (Nat.lt_of_lt_of_le hi h.size) (.inl (by omega))).trans (h.block i hi (by simp))⟩
theorem Zn.wider {lo hi lo' hi' : Nat} {a b : World} (h : Zn lo hi a b) (h1 : lo' ≤ lo) (h2 : hi ≤ hi') : Zn lo' hi' a b :=
  ⟨h.os, h.tape, h.output, h.size, fun i hi hr => h.block i hi (by omega)⟩
theorem Blk.zone {lo hi : Nat} {w w' : World} {g : Nat} {t : TypeId} {cs : Array Value} (h : Blk w g t cs) (k : Zn lo hi w w') (hg : g < lo ∨ hi ≤ g) : Blk w' g t cs := (k.block g h.lt hg).trans h
/-- What lies from the zone's end on stands. -/
theorem own_zone {lo hi base size n : Nat} {w w' : World} {E : TypeId} {v : Value} {xs : List Value} (h : w.ownsRow base E size v n xs) (k : Zn lo hi w w') (hb : hi ≤ base) : w'.ownsRow base E size v n xs := by
  refine ⟨h.1, ?_⟩
  rcases h.2 with h0 | ⟨g, cap, cur, h1, h2, h3, h4⟩
  · exact .inl h0
  · exact .inr ⟨g, cap, cur, h1, h2, Blk.zone (t := E) (cs := cur) h3 k (.inr (by omega)), h4⟩
theorem OwnI.zone {lo hi base : Nat} {w w' : World} {v : Value} {l : List Int} (h : OwnI w base v l) (k : Zn lo hi w w') (hb : hi ≤ base) : OwnI w' base v l := own_zone h k hb

/-- A slice of integers of the call's own, in a block from lo to hi; what it holds is left open. -/
def WI (w : World) (lo hi : Nat) (f : Value) (n : Nat) : Prop :=
  n ≤ 1048576 ∧ ∃ A c, f = .slice A n c ∧ n ≤ c ∧ (n = 0 ∨ ∃ g cur, A = some ⟨g, 0, none⟩ ∧ lo ≤ g ∧ g < hi ∧ Blk w g 3 cur ∧ n ≤ cur.size)
theorem WI.form {w : World} {lo hi n : Nat} {f : Value} (h : WI w lo hi f n) : ∃ A c, f = .slice A n c ∧ n ≤ c ∧ n ≤ 1048576 := by
  obtain ⟨h1, A, c, h2, h3, _⟩ := h
  exact ⟨A, c, h2, h3, h1⟩
theorem WI.at_ {w : World} {lo hi n c : Nat} {A : Option Addr} (h : WI w lo hi (.slice A n c) n) (h0 : 0 < n) : ∃ g cur, A = some ⟨g, 0, none⟩ ∧ lo ≤ g ∧ g < hi ∧ Blk w g 3 cur ∧ n ≤ cur.size := by
  obtain ⟨h1, A', c', h2, h3, h4⟩ := h
  injection h2 with e1 _ e2
  subst e1 e2
  rcases h4 with h4 | h4
  · omega
  · exact h4
theorem OwnI.wi {w : World} {base lo hi : Nat} {v : Value} {l : List Int} (h : OwnI w base v l) (h1 : lo ≤ base) (h2 : w.heap.size ≤ hi) (hl : l.length ≤ 1048576) : WI w lo hi v l.length := by
  refine ⟨hl, ?_⟩
  have hlt := h.lt
  rcases h.2 with ⟨rfl, h0⟩ | ⟨g, cap, cur, rfl, hb, hg, hn, _, hcs, _⟩
  · rw [h0]
    exact ⟨none, 0, rfl, Nat.le_refl _, .inl rfl⟩
  · have := hlt g rfl
    exact ⟨_, cap, rfl, hn, .inr ⟨g, cur, rfl, by omega, by omega, hg, by omega⟩⟩
/-- Only integers in the zone have turned. -/
structure MI (lo hi : Nat) (w w' : World) : Prop where
  z : Zn lo hi w w'
  ints : ∀ g cs, Blk w g 3 cs → ∃ cs' : Array Value, Blk w' g 3 cs' ∧ cs'.size = cs.size
  other : ∀ g t cs, t ≠ 3 → Blk w g t cs → Blk w' g t cs
theorem MI.refl (lo hi : Nat) (w : World) : MI lo hi w w := ⟨Zn.refl _ _ _, fun _ cs h => ⟨cs, h, rfl⟩, fun _ _ _ _ h => h⟩
theorem MI.trans {lo hi : Nat} {a b c : World} (h : MI lo hi a b) (k : MI lo hi b c) : MI lo hi a c :=
  ⟨h.z.trans k.z, fun g cs hb => by
    obtain ⟨cs', h1, h2⟩ := h.ints g cs hb
    obtain ⟨cs2, h3, h4⟩ := k.ints g cs' h1
    exact ⟨cs2, h3, by omega⟩, fun g t cs ht hb => k.other g t cs ht (h.other g t cs ht hb)⟩
theorem MI.set_ {lo hi g : Nat} {w : World} {cur : Array Value} (hb : Blk w g 3 cur) (h1 : lo ≤ g) (h2 : g < hi) (j : Nat) (u : Value) : MI lo hi w (w.setCell ⟨g, j, none⟩ u) := by
  refine ⟨Zn.of_gb (gb_set (p := ⟨g, j, none⟩) (gb_refl w (some g)) (.inr rfl) u) (fun g' e => by cases e; exact ⟨h1, h2⟩), fun g' cs hb' => ?_, fun g' t cs ht hb' => hb'.far (hb'.ne_ hb ht) u⟩
  by_cases e : g' = g
  · subst e
    exact ⟨_, hb'.set_ j u, by simp⟩
  · exact ⟨cs, hb'.far (p := ⟨g, j, none⟩) e u, rfl⟩
theorem MI.of_new {lo hi : Nat} {a b : World} (h : a.grownBy b none) : MI lo hi a b :=
  ⟨Zn.of_gb h (fun _ e => by cases e), fun _ cs hb => ⟨cs, hb.grown h (by simp), rfl⟩, fun _ _ _ _ hb => hb.grown h (by simp)⟩
theorem MI.drew {lo hi : Nat} {a b : World} (h : MI lo hi a b) : MI lo hi a b.drew := ⟨⟨h.z.os, h.z.tape, h.z.output, h.z.size, h.z.block⟩, h.ints, h.other⟩
theorem WI.mi {lo hi lo' hi' n : Nat} {w w' : World} {f : Value} (h : WI w lo hi f n) (k : MI lo' hi' w w') : WI w' lo hi f n := by
  obtain ⟨h1, A, c, h2, h3, h4⟩ := h
  refine ⟨h1, A, c, h2, h3, ?_⟩
  rcases h4 with h4 | ⟨g, cur, h5, h6, h7, h8, h9⟩
  · exact .inl h4
  · obtain ⟨cs', k1, k2⟩ := k.ints g cur h8
    exact .inr ⟨g, cs', h5, h6, h7, k1, by omega⟩

/-- What markIntS leaves: k, k+1, .. at the slice's places. -/
def MarkPost (lo hi : Nat) (w : World) (v : Value) (n k : Nat) (e : Ending) (w' : World) : Prop :=
  e = .returned (.int .i64 (k + n : Nat)) ∧ MI lo hi w w' ∧ w.grownBy w' v.ownBlock ∧ (∀ base l, OwnI w base v l → OwnI w' base v ((List.range n).map (fun j : Nat => ((k + j : Nat) : Int))))
theorem owned_of_cells {w : World} {base n : Nat} {v : Value} {l l' : List Int} (h : OwnI w base v l) (hn : n = l.length) (hl : l'.length = n) {w' : World}
    (hc : ∀ g, v.ownBlock = some g → ∀ cur, Blk w g 3 cur → ∃ cs' : Array Value, Blk w' g 3 cs' ∧ cs'.size = cur.size ∧ ∀ (j : Nat) (x : Int), l'[j]? = some x → cs'[j]? = some (Value.int .i64 x)) : OwnI w' base v l' := by
  subst hn
  unfold OwnI
  rw [hl]
  refine ⟨by simp [hl], ?_⟩
  rcases h.2 with ⟨rfl, h0⟩ | ⟨g, cap, cur, rfl, hb, hg, hn, hm, hcs, ht⟩
  · exact .inl ⟨rfl, h0⟩
  · obtain ⟨cs', k1, k2, k3⟩ := hc g rfl cur hg
    refine .inr ⟨g, cap, cs', rfl, hb, k1, hn, hm, by omega, ?_⟩
    apply List.ext_getElem?
    intro j
    rw [List.getElem?_take]
    by_cases hj : j < l.length
    · obtain ⟨x, hx⟩ : ∃ x, l'[j]? = some x := ⟨_, List.getElem?_eq_getElem (by omega)⟩
      rw [if_pos (by omega), List.getElem?_map, hx]
      simpa using k3 j x hx
    · rw [if_neg (by omega), List.getElem?_eq_none (by simp; omega)]

set_option maxHeartbeats 400000 in
theorem markIntS_any (lo hi : Nat) (v : Value) (n k : Nat) (w : World) (h : WI w lo hi v n) (hk : k ≤ 8000000000000000000) (kz : Int) (hkz : kz = (k : Nat) := by omega) :
    Calls Tryz.prog 80 #[v, .int .i64 kz] w (MarkPost lo hi w v n k) := by
  subst hkz
  obtain ⟨A, c, rfl, hnc, hn⟩ := h.form
  go_enter Tryz.func80, Tryz.ntmps80
  go_wp2_with fail
  go_loopw [1, 5] (fun s i wr => ∃ j : Nat, j ≤ n ∧ i = .int .i64 j ∧ s = .int .i64 (k + j : Nat) ∧ MI lo hi w wr ∧ w.grownBy wr (Value.slice A n c).ownBlock ∧ Hid (∀ g, A = some ⟨g, 0, none⟩ → ∀ cur, Blk wr g 3 cur → ∀ j', j' < j → cur[j']? = some (.int .i64 (k + j' : Nat)))) (fun _ i _ => n - (intOf i).toNat)
  case atStart => exact ⟨0, Nat.zero_le _, rfl, rfl, MI.refl _ _ _, gb_refl _ _, fun g _ cur _ j' hj => by omega⟩
  case round =>
    obtain ⟨j, hj, rfl, rfl, hM, hG, Hc⟩ := hrel
    by_cases hlt : j < n
    · obtain ⟨g, cur, rfl, h1, h2, hb, h3⟩ := (h.mi hM).at_ (by omega)
      have f0 := hb.frozen j
      obtain ⟨u, hu⟩ : ∃ u, cur[j]? = some u := ⟨_, Array.getElem?_eq_getElem (by omega)⟩
      have c0 : wr.cell? ⟨g, j, none⟩ = some u := (hb.cell j).trans hu
      have hM2 := hM.trans (MI.set_ hb h1 h2 j (.int .i64 (k + j : Nat)))
      have hG2 : w.grownBy (wr.setCell ⟨g, j, none⟩ (.int .i64 (k + j : Nat))) (Value.slice (some ⟨g, 0, none⟩) n c).ownBlock := gb_set (p := ⟨g, j, none⟩) hG (.inr rfl) _
      have Hc2 : Hid (∀ g', (some ⟨g, 0, none⟩ : Option Addr) = some ⟨g', 0, none⟩ → ∀ cur, Blk (wr.setCell ⟨g, j, none⟩ (.int .i64 (k + j : Nat))) g' 3 cur → ∀ j', j' < j + 1 → cur[j']? = some (.int .i64 (k + j' : Nat))) := by
        intro g' e cur' hb' j' hj'
        obtain rfl : g = g' := by injection e with e; injection e
        have hs := hb.set_ j (.int .i64 (k + j : Nat))
        obtain rfl : cur' = cur.setIfInBounds j (.int .i64 (k + j : Nat)) := by
          unfold Blk at hb' hs
          rw [hs] at hb'
          injection hb' with hb'
          injection hb' with e1
          exact e1.symm
        by_cases hjj : j' = j
        · subst hjj
          rw [Array.getElem?_setIfInBounds_self_of_lt (by omega)]
        · rw [Array.getElem?_setIfInBounds_ne (by omega)]
          exact Hc.out g rfl cur hb j' (by omega)
      clear hb hM hG Hc hu
      go_wp2_with fail
      go_roundw
      case rel => exact ⟨j + 1, by omega, by go_num, by go_num, hM2, hG2, Hc2⟩
      case measure => simp [intOf]; omega
    · obtain rfl : j = n := by omega
      go_wp2_with fail
      go_ret
      refine ⟨rfl, hM, hG, fun base l ho => ?_⟩
      obtain ⟨A', n', c', e, hl, _⟩ : ∃ A n c, (Value.slice A j c) = Value.slice A n c ∧ n = l.length ∧ n ≤ c := by
        obtain ⟨A', n', c', e, e2, e3⟩ := ho.ri.form'
        injection e with e4 e5 e6
        subst e4 e5 e6
        exact ⟨A, j, c, rfl, e3, e2⟩
      injection e with _ e2 _
      refine owned_of_cells ho (n := j) (by omega) (by simp) ?_
      intro g hg cur hb
      obtain ⟨cs', k1, k2⟩ := hM.ints g cur hb
      refine ⟨cs', k1, k2, fun i x hi => ?_⟩
      have hij : i < j := by have := (List.getElem?_eq_some_iff.1 hi).1; simpa using this
      have hA : A = some ⟨g, 0, none⟩ := by
        rcases ho.2 with ⟨e0, _⟩ | ⟨g', cap, cur', e0, _⟩
        · rw [e0] at hg
          cases hg
        · injection e0 with e0 _ _
          rw [e0] at hg ⊢
          cases hg
          rfl
      rw [Hc.out g hA cs' k1 i hij]
      rw [List.getElem?_map, List.getElem?_range hij] at hi
      injection hi with hi
      rw [← hi]
theorem heldIntS_any (v : Value) (n k : Nat) (w : World) (h : RI w v ((List.range n).map (fun j : Nat => ((k + j : Nat) : Int)))) (hk : k ≤ 8000000000000000000) (hn : n ≤ 1048576) (kz : Int) (hkz : kz = (k : Nat) := by omega) :
    Calls Tryz.prog 83 #[v, .int .i64 kz] w fun e w' => e = .returned (.int .i64 (k + n : Nat)) ∧ w = w' := by
  subst hkz
  obtain ⟨A, n', c, rfl, h2, h3⟩ := h.form'
  obtain rfl : n' = n := by simpa using h3
  clear h3
  go_enter Tryz.func83, Tryz.ntmps83
  go_wp2_with fail
  go_loop [1, 5] (fun s i => ∃ j : Nat, j ≤ n' ∧ i = .int .i64 j ∧ s = .int .i64 (k + j : Nat)) (fun _ i => n' - (intOf i).toNat)
  case atStart => exact ⟨0, Nat.zero_le _, rfl, rfl⟩
  case round =>
    obtain ⟨j, hj, rfl, rfl⟩ := hrel
    by_cases hlt : j < n'
    · obtain ⟨g, o, x, rfl, hx, c0⟩ := h.at_ hlt
      rw [List.getElem?_map, List.getElem?_range hlt] at hx
      obtain rfl : ((k + j : Nat) : Int) = x := by injection hx
      clear hx
      go_wp2_with fail
      go_round
      case rel => exact ⟨j + 1, by omega, by go_num, by go_num⟩
      case measure => simp [intOf]; omega
    · obtain rfl : j = n' := by omega
      go_wp2_with fail
      go_ret
      exact ⟨rfl, rfl⟩
end Go.Proofs.YtihobnheficpjaaGreatDoor
namespace Go.Proofs.YtihobnheficpjaaGreatDoor
open Go.RowKit

theorem TS.blk {w w' : World} {E : TypeId} {size n : Nat} {v : Value} {xs : List Value} (h : TS w E size v n xs) (k : ∀ g cs, Blk w g E cs → Blk w' g E cs) : TS w' E size v n xs := by
  obtain ⟨h0, A, c, h1, h2, h3, h4, h5⟩ := h
  refine ⟨h0, A, c, h1, h2, h3, h4, ?_⟩
  rcases h5 with h5 | ⟨g, o, cur, hA, hb, hc⟩
  · exact .inl h5
  · exact .inr ⟨g, o, cur, hA, k g cur hb, hc⟩
/-- A row of rows, all of the call's own. -/
def OwnLI (w : World) (base : Nat) (v : Value) (ll : List (List Int)) : Prop := ∃ xs, LX w base v ll xs
theorem OwnLI.ownl {w : World} {base : Nat} {v : Value} {ll : List (List Int)} (h : OwnLI w base v ll) : OwnL w base v ll := let ⟨xs, h1⟩ := h; ⟨xs, h1.1, fun i l hi => let ⟨u, k1, k2⟩ := h1.2 i l hi; ⟨u, k1, k2.ri⟩⟩
theorem OwnLI.rl {w : World} {base : Nat} {v : Value} {ll : List (List Int)} (h : OwnLI w base v ll) : RL w v ll := let ⟨_, h1⟩ := h; h1.rl
theorem OwnLI.new {w w' : World} {base : Nat} {v : Value} {ll : List (List Int)} (h : OwnLI w base v ll) (hg : w.grownBy w' none) : OwnLI w' base v ll := let ⟨xs, h1⟩ := h; ⟨xs, h1.new hg⟩
theorem OwnLI.grown {w w' : World} {base : Nat} {v : Value} {ll : List (List Int)} {row : Option Nat} (h : OwnLI w base v ll) (hg : w.grownBy w' row) (hr : NotE w 3 row) (hr' : NotE w 25 row) : OwnLI w' base v ll := let ⟨xs, h1⟩ := h; ⟨xs, h1.grown hg hr hr'⟩
theorem OwnLI.low {w : World} {a b : Nat} {v : Value} {ll : List (List Int)} (h : OwnLI w a v ll) (hab : b ≤ a) : OwnLI w b v ll := let ⟨xs, h1⟩ := h; ⟨xs, h1.low hab⟩
theorem OwnLI.nil (w : World) (base : Nat) : OwnLI w base (.slice none 0 0) [] := ⟨[], LX.nil _ _⟩
theorem OwnLI.made {w : World} {base n : Nat} {v : Value} (h : w.ownsRow base 25 1 v n (madeCells (Value.slice none 0 0).cells n).toList) : OwnLI w base v (List.replicate n []) := let ⟨xs, h1, _⟩ := OwnLO.made h; ⟨xs, h1⟩
theorem OwnLI.set_ {w : World} {base g n cap k : Nat} {ll : List (List Int)} {l : List Int} {f : Value} (h : OwnLI w base (.slice (some ⟨g, 0, none⟩) n cap) ll) (hk : k < ll.length) (hf : OwnI w base f l) :
    OwnLI (w.setCell ⟨g, k, none⟩ f) base (.slice (some ⟨g, 0, none⟩) n cap) (ll.set k l) := let ⟨_, h1⟩ := h; ⟨_, h1.set_ hk hf⟩
theorem OwnLI.at_ {w : World} {base k : Nat} {A : Option Addr} {n c : Nat} {ll : List (List Int)} (h : OwnLI w base (.slice A n c) ll) (hk : k < n) : ∃ g l u, A = some ⟨g, 0, none⟩ ∧ ll[k]? = some l ∧ w.cell? ⟨g, k, none⟩ = some u ∧ OwnI w base u l := by
  obtain ⟨xs, h1, h2⟩ := h
  rcases h1.2 with ⟨e, hz⟩ | ⟨g, cap, cur, e, hb, hh, hn, hm, hcs, ht⟩
  · injection e with e1 e2 e3
    omega
  · injection e with e1 e2 e3
    have hkl : k < ll.length := by omega
    obtain ⟨u, k1, k2⟩ := h2 k _ (List.getElem?_eq_getElem hkl)
    refine ⟨g, _, u, e1, List.getElem?_eq_getElem hkl, ?_, k2⟩
    have hB : Blk w g 25 cur := hh
    rw [hB.cell]
    rw [← ht, List.getElem?_take] at k1
    split at k1
    · simpa using k1
    · cases k1
/-- What a call of a closure leaves: only blocks from lo to hi may turn, and of them only the marks and the rows. -/
structure VFr (lo hi : Nat) (w w' : World) : Prop where
  z : Zn lo hi w w'
  o : ∀ g t cs, t ≠ 101 → t ≠ 25 → Blk w g t cs → Blk w' g t cs
theorem VFr.refl (lo hi : Nat) (w : World) : VFr lo hi w w := ⟨Zn.refl _ _ _, fun _ _ _ _ _ h => h⟩
theorem VFr.trans {lo hi : Nat} {a b c : World} (h : VFr lo hi a b) (k : VFr lo hi b c) : VFr lo hi a c := ⟨h.z.trans k.z, fun g t cs h1 h2 hb => k.o g t cs h1 h2 (h.o g t cs h1 h2 hb)⟩
theorem VFr.of_none {lo hi : Nat} {a b : World} (h : a.grownBy b none) : VFr lo hi a b := ⟨Zn.of_gb h (fun g e => by cases e), fun g t cs _ _ hb => hb.grown h (by simp)⟩
theorem VFr.of_row {lo hi : Nat} {a b : World} {g : Nat} {t : TypeId} {cs : Array Value} (h : a.grownBy b (some g)) (hg : lo ≤ g ∧ g < hi) (hb : Blk a g t cs) (ht : t = 101 ∨ t = 25) : VFr lo hi a b :=
  ⟨Zn.of_gb h (fun g' e => by cases e; exact hg), fun g' t' cs' h1 h2 hb' => hb'.grown h (fun e => by
    injection e with e
    subst e
    have := hb.symm.trans hb'
    injection this with this
    injection this with _ this
    rcases ht with rfl | rfl
    · exact h1 this.symm
    · exact h2 this.symm)⟩
theorem VFr.own {lo hi : Nat} {a b c : World} {g : Nat} (h : VFr lo hi a b) (k : b.grownBy c (some g)) (hg : a.heap.size ≤ g) : VFr lo hi a c :=
  ⟨⟨k.os.trans h.z.os, k.tape.trans h.z.tape, k.output.trans h.z.output, Nat.le_trans h.z.size k.size, fun i hi hr => (k.block i (Nat.lt_of_lt_of_le hi h.z.size) (fun e => by injection e with e; omega)).trans (h.z.block i hi hr)⟩,
    fun g' t cs h1 h2 hb => (h.o g' t cs h1 h2 hb).grown k (fun e => by injection e with e; have := hb.lt; omega)⟩
theorem RI.fr {lo hi : Nat} {w w' : World} {v : Value} {l : List Int} (h : RI w v l) (k : VFr lo hi w w') : RI w' v l := TS.blk h (fun g cs => k.o g _ cs (by decide) (by decide))
theorem RN.fr {lo hi : Nat} {w w' : World} {v : Value} {plan : List Node} (h : RN w v plan) (k : VFr lo hi w w') : RN w' v plan := by
  obtain ⟨xs, h1, h2⟩ := h
  refine ⟨xs, h1.blk (fun g cs => k.o g _ cs (by decide) (by decide)), fun i nd hi => ?_⟩
  obtain ⟨f, r, k1, k2, k3, k4, k5⟩ := h2 i nd hi
  exact ⟨f, r, k1, k2, k3, k4.fr k, k5.fr k⟩
theorem OwnI.fr {lo hi base : Nat} {w w' : World} {v : Value} {l : List Int} (h : OwnI w base v l) (k : VFr lo hi w w') : OwnI w' base v l := by
  refine ⟨h.1, ?_⟩
  rcases h.2 with h0 | ⟨g, cap, cur, e, h2, h3, h4⟩
  · exact .inl h0
  · exact .inr ⟨g, cap, cur, e, h2, k.o g _ cur (by decide) (by decide) h3, h4⟩
theorem OwnL.fr {lo hi base : Nat} {w w' : World} {v : Value} {ll : List (List Int)} (h : OwnL w base v ll) (k : VFr lo hi w w') (hb : hi ≤ base) : OwnL w' base v ll := by
  obtain ⟨xs, h1, h2⟩ := h
  exact ⟨xs, own_zone h1 k.z hb, fun i l hi => let ⟨u, k1, k2⟩ := h2 i l hi; ⟨u, k1, k2.fr k⟩⟩
/-- The closures' common store: marks in block M, the rows' variable RB, the rows RW, the plan's variable PB, the closures' variables GB and RO. -/
structure VSt (plan : List Node) (V : Value) (lo hi M RB RW PB GB RO n : Nat) (w : World) (rows : List (List Int)) : Prop where
  mm : ∃ cs, Blk w M 101 cs ∧ cs.size = 10 ∧ ∀ i : Nat, i < 10 → ∃ b, cs[i]? = some (.bool b) ∧ (b = true → rows[i]? = some (valAt plan i))
  rb : Blk w RB 24 #[.slice (some ⟨RW, 0, none⟩) n n]
  rw : OwnLI w lo (.slice (some ⟨RW, 0, none⟩) n n) rows
  rl : rows.length = n
  pl : plan.length = n
  pb : Blk w PB 23 #[V]
  gb : Blk w GB 102 #[.func (.func 90) #[] #[.pointer (some ⟨RO, 0, none⟩)]]
  ro : Blk w RO 104 #[.func (.func 88) #[] #[.pointer (some ⟨M, 0, none⟩), .pointer (some ⟨RB, 0, none⟩), .pointer (some ⟨PB, 0, none⟩), .pointer (some ⟨GB, 0, none⟩)]]
  rn : RN w V plan
  hm : lo ≤ M ∧ M < hi
  hr : lo ≤ RW ∧ RW < hi
  hh : hi ≤ w.heap.size
section
variable {plan : List Node} {V : Value} {lo hi M RB RW PB GB RO n : Nat} {w w' : World} {rows : List (List Int)}
theorem VSt.new (h : VSt plan V lo hi M RB RW PB GB RO n w rows) (hg : w.grownBy w' none) : VSt plan V lo hi M RB RW PB GB RO n w' rows := by
  obtain ⟨cs, m1, m2, m3⟩ := h.mm
  exact ⟨⟨cs, m1.grown hg (by simp), m2, m3⟩, h.rb.grown hg (by simp), h.rw.new hg, h.rl, h.pl, h.pb.grown hg (by simp), h.gb.grown hg (by simp), h.ro.grown hg (by simp), h.rn.new hg, h.hm, h.hr, Nat.le_trans h.hh hg.size⟩
theorem VSt.rwb (h : VSt plan V lo hi M RB RW PB GB RO n w rows) (hn : 0 < n) : ∃ cur, Blk w RW 25 cur := by
  obtain ⟨g, cap, cur, e, _, _, hb, _⟩ := h.rw.ownl.form h.rl hn
  injection e with e
  injection e with e
  injection e with e
  subst e
  exact ⟨cur, hb⟩
theorem VSt.far (h : VSt plan V lo hi M RB RW PB GB RO n w rows) {g : Nat} {cur : Array Value} (hg : w.grownBy w' (some g)) (hB : Blk w g 25 cur) (hge : hi ≤ g) : VSt plan V lo hi M RB RW PB GB RO n w' rows := by
  have k1 : VFr g (g + 1) w w' := VFr.of_row hg ⟨Nat.le_refl _, Nat.lt_succ_self _⟩ hB (.inr rfl)
  obtain ⟨cs, m1, m2, m3⟩ := h.mm
  obtain ⟨xs, o1, o2⟩ := h.rw
  have hr := h.hr
  have hh := h.hh
  refine ⟨⟨cs, m1.grown hg (fun e => ?_), m2, m3⟩, k1.o _ _ _ (by decide) (by decide) h.rb, ⟨xs, ⟨o1.1, ?_⟩, fun i l hi => let ⟨u, a, b⟩ := o2 i l hi; ⟨u, a, b.fr k1⟩⟩, h.rl, h.pl, k1.o _ _ _ (by decide) (by decide) h.pb, k1.o _ _ _ (by decide) (by decide) h.gb, k1.o _ _ _ (by decide) (by decide) h.ro, h.rn.fr k1, h.hm, h.hr, Nat.le_trans h.hh hg.size⟩
  · injection e with e
    exact m1.ne_ hB (by decide) e
  · rcases o1.2 with h0 | ⟨g', cap, cur', e, h2, h3, h4⟩
    · exact .inl h0
    · injection e with e1 e2 e3
      injection e1 with e1
      injection e1 with e1
      subst e1
      exact .inr ⟨RW, cap, cur', by rw [← e2, ← e3], h2, (hg.block RW (by omega) (fun e => by injection e with e; omega)).trans h3, h4⟩
theorem VSt.slot (h : VSt plan V lo hi M RB RW PB GB RO n w rows) {k : Nat} (hk : k < n) : (∃ u, w.cell? ⟨RW, k, none⟩ = some u) ∧ w.frozen? ⟨RW, k, none⟩ = false := by
  obtain ⟨g, cap, cur, e, _, _, hb, hc⟩ := h.rw.ownl.form h.rl (by omega)
  obtain rfl : RW = g := by injection e with e; injection e with e; injection e
  exact ⟨hc k hk, hb.frozen k⟩
theorem VSt.mslot (h : VSt plan V lo hi M RB RW PB GB RO n w rows) {k : Nat} (hk : k < 10) : (∃ u, w.cell? ⟨M, k, none⟩ = some u) ∧ w.frozen? ⟨M, k, none⟩ = false := by
  obtain ⟨cs, m1, m2, m3⟩ := h.mm
  obtain ⟨b, b1, -⟩ := m3 k hk
  exact ⟨⟨_, (m1.cell k).trans b1⟩, m1.frozen k⟩
theorem VSt.gbc (h : VSt plan V lo hi M RB RW PB GB RO n w rows) : w.cell? ⟨GB, 0, none⟩ = some (.func (.func 90) #[] #[.pointer (some ⟨RO, 0, none⟩)]) := h.gb.cell 0
theorem VSt.rowc (h : VSt plan V lo hi M RB RW PB GB RO n w rows) {k : Nat} (hk : k < n) (hr : rows[k]? = some (valAt plan k)) : ∃ B m e, w.cell? ⟨RW, k, none⟩ = some (.slice B m e) ∧ RI w (.slice B m e) (valAt plan k) := by
  obtain ⟨g, o, l, B, m, e, hA, hl, hc, hrl, -, -, -⟩ := h.rw.rl.at_ hk
  injection hA with hA
  injection hA with hA1 hA2
  subst hA1 hA2
  rw [hl] at hr
  injection hr with hr
  subst hr
  rw [Nat.zero_add] at hc
  exact ⟨B, m, e, hc, hrl⟩
theorem VSt.nes (h : VSt plan V lo hi M RB RW PB GB RO n w rows) (hn : 0 < n) {x : Nat} {cs : Array Value} (hx : Blk w x 94 cs) : x ≠ RW ∧ RB ≠ RW ∧ GB ≠ RW := by
  obtain ⟨cur, hb⟩ := h.rwb hn
  exact ⟨hx.ne_ hb (by decide), h.rb.ne_ hb (by decide), h.gb.ne_ hb (by decide)⟩
theorem VSt.rbc (h : VSt plan V lo hi M RB RW PB GB RO n w rows) : w.cell? ⟨RB, 0, none⟩ = some (.slice (some ⟨RW, 0, none⟩) n n) := h.rb.cell 0
/-- A row is put in: node k's own, or any other where none is marked. -/
theorem VSt.row (h : VSt plan V lo hi M RB RW PB GB RO n w rows) {k : Nat} {u : Value} (hk : k < n) (hu : OwnI w lo u (valAt plan k)) : VSt plan V lo hi M RB RW PB GB RO n (w.setCell ⟨RW, k, none⟩ u) (rows.set k (valAt plan k)) ∧ VFr lo hi w (w.setCell ⟨RW, k, none⟩ u) := by
  obtain ⟨cur, hB⟩ := h.rwb (by omega)
  have hst : w.grownBy (w.setCell ⟨RW, k, none⟩ u) (some RW) := gb_set (p := ⟨RW, k, none⟩) (gb_refl w (some RW)) (.inr rfl) _
  have k1 : VFr lo hi w (w.setCell ⟨RW, k, none⟩ u) := VFr.of_row hst h.hr hB (.inr rfl)
  obtain ⟨cs, m1, m2, m3⟩ := h.mm
  refine ⟨⟨⟨cs, m1.grown hst (fun e => ?_), m2, fun i hi => ?_⟩, k1.o _ _ _ (by decide) (by decide) h.rb, h.rw.set_ (by rw [h.rl]; exact hk) hu, by rw [List.length_set]; exact h.rl, h.pl, k1.o _ _ _ (by decide) (by decide) h.pb, k1.o _ _ _ (by decide) (by decide) h.gb, k1.o _ _ _ (by decide) (by decide) h.ro, h.rn.fr k1, h.hm, h.hr, Nat.le_trans h.hh hst.size⟩, k1⟩
  · injection e with e
    exact m1.ne_ hB (by decide) e
  · obtain ⟨b, b1, b2⟩ := m3 i hi
    refine ⟨b, b1, fun hb => ?_⟩
    by_cases hik : i = k
    · subst hik
      rw [List.getElem?_set_self (by rw [h.rl]; exact hk)]
    · rw [List.getElem?_set_ne (fun e => hik e.symm)]
      exact b2 hb
/-- Node k is marked. -/
theorem VSt.mark (h : VSt plan V lo hi M RB RW PB GB RO n w rows) {k : Nat} (hk : k < 10) (hr : rows[k]? = some (valAt plan k)) : VSt plan V lo hi M RB RW PB GB RO n (w.setCell ⟨M, k, none⟩ (.bool true)) rows ∧ VFr lo hi w (w.setCell ⟨M, k, none⟩ (.bool true)) := by
  obtain ⟨cs, m1, m2, m3⟩ := h.mm
  have hst : w.grownBy (w.setCell ⟨M, k, none⟩ (.bool true)) (some M) := gb_set (p := ⟨M, k, none⟩) (gb_refl w (some M)) (.inr rfl) _
  have k1 : VFr lo hi w (w.setCell ⟨M, k, none⟩ (.bool true)) := VFr.of_row hst h.hm m1 (.inl rfl)
  refine ⟨⟨⟨_, m1.set_ k _, by rw [Array.size_setIfInBounds]; exact m2, fun i hi => ?_⟩, k1.o _ _ _ (by decide) (by decide) h.rb, h.rw.grown hst (NotE.blk m1 (by decide)) (NotE.blk m1 (by decide)), h.rl, h.pl, k1.o _ _ _ (by decide) (by decide) h.pb, k1.o _ _ _ (by decide) (by decide) h.gb, k1.o _ _ _ (by decide) (by decide) h.ro, h.rn.fr k1, h.hm, h.hr, Nat.le_trans h.hh hst.size⟩, k1⟩
  by_cases hik : i = k
  · subst hik
    exact ⟨true, by rw [Array.getElem?_setIfInBounds]; simp [m2, hi], fun _ => hr⟩
  · obtain ⟨b, b1, b2⟩ := m3 i hi
    exact ⟨b, by rw [Array.getElem?_setIfInBounds, if_neg (fun e => hik e.symm)]; exact b1, b2⟩
/-- What a row's turn leaves at its half: the row is in. -/
def RowMid (plan : List Node) (V : Value) (lo hi M RB RW PB GB RO n k : Nat) (w : World) (rows : List (List Int)) (w' : World) : Prop :=
  ∃ rows', VSt plan V lo hi M RB RW PB GB RO n w' rows' ∧ VFr lo hi w w' ∧ (∀ i : Nat, rows[i]? = some (valAt plan i) → rows'[i]? = some (valAt plan i)) ∧ rows'[k]? = some (valAt plan k)
theorem VSt.mid (h : VSt plan V lo hi M RB RW PB GB RO n w' rows) {w0 : World} {rows0 : List (List Int)} (hfr : VFr lo hi w0 w') (hm : ∀ i : Nat, rows0[i]? = some (valAt plan i) → rows[i]? = some (valAt plan i)) {k : Nat} {u : Value} (hk : k < n) (hu : OwnI w' lo u (valAt plan k)) :
    RowMid plan V lo hi M RB RW PB GB RO n k w0 rows0 (w'.setCell ⟨RW, k, none⟩ u) := by
  have hkl : k < rows.length := by rw [h.rl]; exact hk
  obtain ⟨h1, h2⟩ := h.row hk hu
  refine ⟨_, h1, hfr.trans h2, fun i hi => ?_, by rw [List.getElem?_set_self hkl]⟩
  by_cases hik : i = k
  · subst hik
    rw [List.getElem?_set_self hkl]
  · rw [List.getElem?_set_ne (fun e => hik e.symm)]
    exact hm i hi
end
/-- What a call of rowOf leaves. -/
def RowOfPost (plan : List Node) (V : Value) (lo hi M RB RW PB GB RO n k : Nat) (w : World) (rows : List (List Int)) (e : Ending) (w' : World) : Prop :=
  ∃ v rows', e = .returned v ∧ RI w' v (valAt plan k) ∧ VSt plan V lo hi M RB RW PB GB RO n w' rows' ∧ VFr lo hi w w' ∧ (∀ i : Nat, rows[i]? = some (valAt plan i) → rows'[i]? = some (valAt plan i)) ∧ rows'[k]? = some (valAt plan k)
/-- What a call of gather leaves. -/
def GatherPost (plan : List Node) (V : Value) (lo hi M RB RW PB GB RO n : Nat) (l : List Int) (w : World) (rows : List (List Int)) (e : Ending) (w' : World) : Prop :=
  ∃ v rows', e = .returned v ∧ RL w' v (l.map fun j => valAt plan j.toNat) ∧ VSt plan V lo hi M RB RW PB GB RO n w' rows' ∧ VFr lo hi w w' ∧ (∀ i : Nat, rows[i]? = some (valAt plan i) → rows'[i]? = some (valAt plan i))
def RowOfAt (plan : List Node) (V : Value) (lo hi M RB RW PB GB RO n k : Nat) : Prop :=
  ∀ w rows, VSt plan V lo hi M RB RW PB GB RO n w rows → Calls Tryz.prog 88 #[.int .i64 k, .pointer (some ⟨M, 0, none⟩), .pointer (some ⟨RB, 0, none⟩), .pointer (some ⟨PB, 0, none⟩), .pointer (some ⟨GB, 0, none⟩)] w (RowOfPost plan V lo hi M RB RW PB GB RO n k w rows)
set_option maxHeartbeats 1600000 in
set_option maxRecDepth 20000 in
theorem gather_any {plan : List Node} {V : Value} {lo hi M RB RW PB GB RO n k : Nat} (IH : ∀ j, j < k → RowOfAt plan V lo hi M RB RW PB GB RO n j) (_hk : k ≤ n) (_hn : n ≤ 10) {v : Value} {l : List Int} {w : World} {rows : List (List Int)} (h : VSt plan V lo hi M RB RW PB GB RO n w rows) (hl : RI w v l) (hl2 : l.length ≤ 2) (hin : ∀ y ∈ l, 0 ≤ y ∧ y < k) :
    Calls Tryz.prog 90 #[v, .pointer (some ⟨RO, 0, none⟩)] w (GatherPost plan V lo hi M RB RW PB GB RO n l w rows) := by
  obtain ⟨A, m, c, rfl, hmc, hm⟩ := hl.form'
  rw [← hm] at hl2
  have Hm := Lib.hid hm
  have Hin := Lib.hid hin
  have HIH := Lib.hid IH
  clear hm hin IH
  obtain ⟨i0, hif, hz0, hz1, hz2⟩ := info_parts info25
  go_enter Tryz.func90, Tryz.ntmps90
  go_wp2_with (at_make; go_must (refine wpList_make_full _ rfl _ _ 24 rfl w.heap.size 25 i0 _ 1 Tryz.underlying24 hif hz0 hz1 _ _ _ _ m rfl rfl rfl rfl (by rw [hz2]; omega) (by unfold maxLen; omega) (Nat.le_refl _) ?_))
  intro w1 hown hg1
  have ho1 : OwnL w1 w.heap.size (.slice (some ⟨w.heap.size, 0, none⟩) m m) (List.replicate m []) := by
    refine OwnL.made ?_
    have e : m * 1 = m := Nat.mul_one m
    first | exact hown | (rw [e] at hown; exact hown) | (simp at hown; exact hown)
  have hlt1 := (hown.lt w.heap.size rfl).2
  clear hown
  have h1 := h.new hg1
  have hl1 := hl.new hg1
  go_wp2_with fail
  obtain ⟨ll, hll⟩ : ∃ ll, ll = l.map fun j => valAt plan j.toNat := ⟨_, rfl⟩
  have hlm : Hid (ll.length = m) := by show _ = _; rw [hll, List.length_map, Hm.out]
  have Hll := Lib.hid hll
  have hstart : Hid (OwnL w1 w.heap.size (.slice (some ⟨w.heap.size, 0, none⟩) m m) (ll.take 0 ++ List.replicate (m - 0) [])) := by show OwnL _ _ _ _; simpa using ho1
  have hhi := h.hh
  have hfr1 : VFr lo hi w w1 := VFr.of_none hg1
  clear ho1 hll h hl1
  go_loopg [5, 6, 12] (m + 1) (fun mm x5 x6 i wr => ∃ (q : Nat) (rws : List (List Int)), q ≤ m ∧ mm = m + 1 - q ∧ i = .int .i64 q ∧ VSt plan V lo hi M RB RW PB GB RO n wr rws ∧ VFr lo hi w wr ∧ Hid (∀ i : Nat, rows[i]? = some (valAt plan i) → rws[i]? = some (valAt plan i)) ∧ Hid (OwnL wr w.heap.size (.slice (some ⟨w.heap.size, 0, none⟩) m m) (ll.take q ++ List.replicate (m - q) [])) ∧ w.heap.size < wr.heap.size)
  case atStart => exact ⟨0, rows, Nat.zero_le _, rfl, rfl, h1, hfr1, fun _ hi => hi, hstart, hlt1⟩
  case round =>
    clear h1 hstart hfr1
    obtain ⟨q, rws, hq, rfl, rfl, hst, hfr, hmono, hO, hsz⟩ := hrel
    by_cases hlt : q < m
    · have hlr := hl.fr hfr
      obtain ⟨g, o, y, rfl, hy, c0⟩ := hlr.at_ hlt
      obtain ⟨hy0, hy1⟩ := Hin.out y (List.mem_of_getElem? hy)
      obtain ⟨j, rfl⟩ := Int.eq_ofNat_of_zero_le hy0
      have hj : j < k := by omega
      have r0 : wr.cell? ⟨RO, 0, none⟩ = some _ := hst.ro.cell 0
      have hx : ll[q]? = some (valAt plan j) := by rw [Hll.out, List.getElem?_map, hy]; rfl
      have hset : Hid ((ll.take q ++ List.replicate (m - q) ([] : List Int)).set q (valAt plan j) = ll.take (q + 1) ++ List.replicate (m - (q + 1)) []) := by
        show _ = _
        obtain ⟨hk', hx'⟩ := List.getElem?_eq_some_iff.1 hx
        have hsl : (ll.take q).length = q := by rw [List.length_take]; omega
        rw [List.set_append_right _ _ (by omega), hsl, Nat.sub_self, show m - q = m - (q + 1) + 1 by omega, List.replicate_succ, List.set_cons_zero, List.take_succ_eq_append_getElem hk', hx', List.append_assoc]
        rfl
      have Hlen : Hid ((ll.take q ++ List.replicate (m - q) ([] : List Int)).length = m) := by
        show _ = _
        rw [List.length_append, List.length_replicate, List.length_take, hlm.out]
        omega
      clear hx hy hy0 hy1
      go_wp2_with fail
      refine (HIH.out j hj wr rws hst).mono ?_
      rintro e w4 ⟨u, rws', rfl, hu, hst4, hfr4, hm4, -⟩
      obtain ⟨A', n', c', rfl⟩ := hu.val
      have hO4 := hO.out.fr hfr4 hhi
      obtain ⟨g2, cap2, cur2, he2, -, -, hB2, hc2⟩ := hO4.form Hlen.out (by omega)
      obtain rfl : w.heap.size = g2 := by injection he2 with he2; injection he2 with he2; injection he2
      clear he2
      obtain ⟨u0, c4⟩ := hc2 q hlt
      have f4 : w4.frozen? ⟨w.heap.size, q, none⟩ = false := hB2.frozen q
      have hO5 := hO4.set_ Hlen.out hlt hu
      rw [hset.out] at hO5
      have HO5 := Lib.hid hO5
      have hgs : w4.grownBy (w4.setCell ⟨w.heap.size, q, none⟩ (.slice A' n' c')) (some w.heap.size) := gb_set (p := ⟨w.heap.size, q, none⟩) (gb_refl w4 _) (.inr rfl) _
      have hst5 := hst4.far hgs hB2 hhi
      have hfr5 : VFr lo hi w (w4.setCell ⟨w.heap.size, q, none⟩ (.slice A' n' c')) := (hfr.trans hfr4).own hgs (Nat.le_refl _)
      have hm5 : Hid (∀ i : Nat, rows[i]? = some (valAt plan i) → rws'[i]? = some (valAt plan i)) := fun i hi => hm4 i (hmono.out i hi)
      have hsz5 : w.heap.size < (w4.setCell ⟨w.heap.size, q, none⟩ (.slice A' n' c')).heap.size := by have := hgs.size; have := hfr4.z.size; omega
      clear hO hO4 hO5 hset hm4 hmono hst4 hfr hfr4 hst
      go_wp2_with fail
      go_roundg (m + 1 - (q + 1))
      case measure => omega
      case rel => exact ⟨q + 1, rws', by omega, rfl, by go_num, hst5, hfr5, hm5, HO5, hsz5⟩
    · obtain rfl : q = m := by omega
      have hO2 : RL wr (.slice (some ⟨w.heap.size, 0, none⟩) q q) ll := by
        have := hO.out
        rw [Nat.sub_self, List.replicate_zero, List.append_nil, List.take_of_length_le (by rw [hlm.out]; exact Nat.le_refl _)] at this
        exact this.rl
      rw [Hll.out] at hO2
      clear hO
      go_wp2_with fail
      go_ret
      exact ⟨_, rws, rfl, hO2, hst, hfr, hmono.out⟩
set_option maxHeartbeats 1600000 in
set_option maxRecDepth 20000 in
theorem rowOf_step {plan : List Node} {V : Value} {lo hi M RB RW PB GB RO n k : Nat} (IH : ∀ j, j < k → RowOfAt plan V lo hi M RB RW PB GB RO n j) (hk : k < n) (hn : n ≤ 10) (hv : planValid plan = true) : RowOfAt plan V lo hi M RB RW PB GB RO n k := by
  intro w rows h
  obtain ⟨A, n', c, rfl, hnc, hn', -⟩ := h.rn.form'
  obtain ⟨cs, m1, m2, m3⟩ := h.mm
  obtain ⟨b, b1, b2⟩ := m3 k (by omega)
  have d0 : w.cell? ⟨M, k, none⟩ = some (.bool b) := (m1.cell k).trans b1
  have d1 : w.cell? ⟨RB, 0, none⟩ = some _ := h.rb.cell 0
  have Hb := Lib.hid b2
  clear m1 m2 m3 b1 b2
  cases b with
  | true =>
    obtain ⟨g, o, l, B, m, e, hA, hl, hc, hrl, -, -, -⟩ := h.rw.rl.at_ hk
    injection hA with hA
    injection hA with hA1 hA2
    subst hA1 hA2
    have hrow := Hb.out rfl
    rw [hl] at hrow
    injection hrow with hrow
    subst hrow
    have Hl := Lib.hid hl
    rw [Nat.zero_add] at hc
    clear hl hn' hnc
    go_enter Tryz.func88, Tryz.ntmps88
    go_wp2_with fail
    go_ret
    exact ⟨_, rows, rfl, hrl, h, VFr.refl _ _ _, fun _ hi => hi, Hl.out⟩
  | false =>
    have hn'2 : n' = n := hn'.trans h.pl
    subst hn'2
    obtain ⟨g, o, nd, f, r, rfl, hx, c0, c1, c2', hf, hr⟩ := h.rn.at_ hk
    obtain ⟨Af, nf, cf, rfl⟩ := hf.val
    obtain ⟨Ar, nr, cr, rfl⟩ := hr.val
    have p0 : w.cell? ⟨PB, 0, none⟩ = some _ := h.pb.cell 0
    have Hx := Lib.hid hx
    clear hx hn'
    go_enter Tryz.func88, Tryz.ntmps88
    go_upto_region 4 with fail
    have hga := World.grownBy_alloc w (.cells #[.int .i64 nd.kind, .slice Af nf cf, .slice Ar nr cr] 94) none
    have hB := Blk.new w 94 #[.int .i64 nd.kind, .slice Af nf cf, .slice Ar nr cr]
    generalize w.alloc (.cells #[.int .i64 nd.kind, .slice Af nf cf, .slice Ar nr cr] 94) = wa at hB hga ⊢
    have a0 : wa.cell? ⟨w.heap.size, 0, none⟩ = some (.int .i64 nd.kind) := hB.cell 0
    have haD := gb_drew hga
    have hD := h.new haD
    have hfD : VFr lo hi w wa.drew := VFr.of_none haD
    have hBD : Blk wa.drew w.heap.size 94 #[.int .i64 nd.kind, .slice Af nf cf, .slice Ar nr cr] := hB
    have e0 : wa.drew.cell? ⟨w.heap.size, 0, none⟩ = some (.int .i64 nd.kind) := hBD.cell 0
    have e1 : wa.drew.cell? ⟨w.heap.size, 1, none⟩ = some (.slice Af nf cf) := hBD.cell 1
    have e2 : wa.drew.cell? ⟨w.heap.size, 2, none⟩ = some (.slice Ar nr cr) := hBD.cell 2
    have e3 := hD.rbc
    have e4 := hD.gbc
    have hfD2 := hf.new haD
    have hrD2 := hr.new haD
    clear hf hr c0 c1 c2' d0 d1 p0
    go_upto_if 21 with fail
    clear a0
    go_cut [] (fun wx => RowMid plan (.slice (some ⟨g, o, none⟩) n' c) lo hi M RB RW PB GB RO n' k w rows wx)
    case first =>
      by_cases hk0 : nd.kind = 0
      · have hb0 : (nd.kind == 0) = true := by simpa using hk0
        have Hrow : Hid (valAt plan k = nd.row) := valAt_fixed Hx.out hk0
        have hrl : nd.row.length ≤ 1000000000 := by
          have := rowValid_len ((fits_kind (planValid_node hv Hx.out).1).2.2.2 hk0)
          omega
        clear hk0 IH
        go_wp2_with fail
        go_region_law (go_simp; go_at_call 86; refine (copyInts_any _ nd.row _ (by exact hrD2) hrl).mono ?_; rintro e w4 ⟨u, rfl, ho, hg4⟩; have f0 := hg4.cell (by exact e0) (by simp); have f2 := hg4.cell (by exact e2) (by simp); have f3 := hg4.cell (by exact e3) (by simp); have hst4 := hD.new hg4; obtain ⟨⟨u9, f5⟩, f6⟩ := hst4.slot hk; obtain ⟨A4, n4, c4, rfl⟩ := ho.ri.val; have hmid := hst4.mid (hfD.trans (VFr.of_none hg4)) (fun _ hi => hi) hk (by rw [Hrow.out]; exact ho.lower (by have := hD.hm; have := hD.hh; omega)))
        all_goals
          go_wp2_with fail
          go_meet
          exact hmid
      · have hb0 : (nd.kind == 0) = false := by simpa using hk0
        have Hrun : Hid (kindRun nd.kind (nd.frm.map fun j => valAt plan j.toNat) = some (valAt plan k)) := valAt_run hv Hx.out hk0
        have Hin : Hid (∀ y ∈ nd.frm, 0 ≤ y ∧ y < (k : Int)) := (fits_kind (planValid_node hv Hx.out).1).2.2.1
        have hf2 : nd.frm.length ≤ 2 := (planValid_node hv Hx.out).2.1
        have HIH := Lib.hid IH
        clear hk0 IH
        go_wp2_with fail
        obtain ⟨hn1, hn2, hn3⟩ : w.heap.size ≠ RW ∧ RB ≠ RW ∧ GB ≠ RW := hD.nes (by omega) hBD
        go_region_held3 (fun w' => w'.cell? ⟨w.heap.size, 0, none⟩ = some (.int .i64 nd.kind) ∧ w'.cell? ⟨w.heap.size, 1, none⟩ = some (.slice Af nf cf) ∧ w'.cell? ⟨RB, 0, none⟩ = some (.slice (some ⟨RW, 0, none⟩) n' n') ∧ w'.cell? ⟨GB, 0, none⟩ = some (.func (.func 90) #[] #[.pointer (some ⟨RO, 0, none⟩)])) (go_keep) (first
          | (go_at_call 90; refine (gather_any HIH.out (Nat.le_of_lt hk) hn (by exact hD) (by exact hfD2) hf2 Hin.out).mono ?_; rintro e w4 ⟨v4, rws4, rfl, hv4, hst4, hfr4, hm4⟩; have hB4 := hfr4.o _ _ _ (by decide) (by decide) hBD; have f0 : w4.cell? ⟨w.heap.size, 0, none⟩ = some (.int .i64 nd.kind) := hB4.cell 0; have f1 : w4.cell? ⟨w.heap.size, 1, none⟩ = some (.slice Af nf cf) := hB4.cell 1; have f3 := hst4.rbc; have f4 := hst4.gbc; obtain ⟨A4, n4, c4, rfl⟩ := hv4.val)
          | (go_at_call 89; refine (implKindRun_any nd.kind _ _ w4 (by exact hv4)).mono ?_; rw [Hrun.out]; rintro e w5 ⟨u, rfl, ho, hg5⟩; have q0 := hg5.cell (by exact f0) (by simp); have q1 := hg5.cell (by exact f1) (by simp); have q4 := hg5.cell (by exact f4) (by simp); have q3 := hg5.cell (by exact f3) (by simp); have hst5 := hst4.new hg5; obtain ⟨⟨u9, q5⟩, q6⟩ := hst5.slot hk; obtain ⟨A5, n5, c5, rfl⟩ := ho.ri.val; have hmid := hst5.mid (hfD.trans (hfr4.trans (VFr.of_none hg5))) hm4 hk (by exact ho.lower (by have := hst4.hm; have := hst4.hh; omega)); have gs : w5.grownBy (w5.setCell ⟨RW, k, none⟩ (.slice A5 n5 c5)) (some RW) := gb_set (p := ⟨RW, k, none⟩) (gb_refl w5 _) (.inr rfl) _; have s0 := gs.cell (by exact q0) (fun e => hn1 (by injection e)); have s1 := gs.cell (by exact q1) (fun e => hn1 (by injection e)); have s3 := gs.cell (by exact q3) (fun e => hn2 (by injection e)); have s4 := gs.cell (by exact q4) (fun e => hn3 (by injection e))))
        all_goals
          go_wp2_with fail
          go_meet
          exact hmid
    case rest =>
      obtain ⟨rows', hst, hfr, hm, hk2⟩ := hcut
      have hk10 : k < 10 := by omega
      obtain ⟨⟨u9, q5⟩, q6⟩ := hst.mslot hk10
      obtain ⟨hst2, hfr2⟩ := hst.mark hk10 hk2
      have hfr3 := hfr.trans hfr2
      obtain ⟨B, m, e, q1, hrl⟩ := hst2.rowc hk hk2
      have q3 := hst2.rbc
      have Hm := Lib.hid hm
      have Hk2 := Lib.hid hk2
      clear hm hk2 hst hfr hfr2
      go_upto_region 8 with fail
      generalize wc.setCell ⟨M, k, none⟩ (.bool true) = wz at hst2 hfr3 q1 hrl q3 ⊢
      go_wp2_with fail
      go_ret
      exact ⟨_, rows', rfl, hrl, hst2, hfr3, Hm.out, Hk2.out⟩
theorem rowOf_all {plan : List Node} {V : Value} {lo hi M RB RW PB GB RO n : Nat} (hn : n ≤ 10) (hv : planValid plan = true) : ∀ k, k < n → RowOfAt plan V lo hi M RB RW PB GB RO n k := by
  intro k
  induction k using Nat.strongRecOn with
  | ind k ih => exact fun hk => rowOf_step (fun j hj => ih j hj (by omega)) hk hn hv
/-- The closures' store as it is laid: nothing is marked. -/
theorem VSt.start {w : World} {plan : List Node} {V : Value} {lo PB RW n : Nat} (hB : Blk w PB 23 #[V]) (hr : RN w V plan) (ho : OwnLI w lo (.slice (some ⟨RW, 0, none⟩) n n) (List.replicate n [])) (hn : plan.length = n) (h1 : lo ≤ RW) (h2 : RW < w.heap.size) :
    ∃ W : World, W = ((((w.alloc (.cells #[.slice (some ⟨RW, 0, none⟩) n n] 24)).alloc (.cells #[.bool false, .bool false, .bool false, .bool false, .bool false, .bool false, .bool false, .bool false, .bool false, .bool false] 101)).alloc (.cells #[.func (.func 90) #[] #[.pointer (some ⟨w.heap.size + 1 + 1 + 1, 0, none⟩)]] 102)).alloc
      (.cells #[.func (.func 88) #[] #[.pointer (some ⟨w.heap.size + 1, 0, none⟩), .pointer (some ⟨w.heap.size, 0, none⟩), .pointer (some ⟨PB, 0, none⟩), .pointer (some ⟨w.heap.size + 1 + 1, 0, none⟩)]] 104))
      ∧ VSt plan V lo (w.heap.size + 1 + 1 + 1 + 1) (w.heap.size + 1) w.heap.size RW PB (w.heap.size + 1 + 1) (w.heap.size + 1 + 1 + 1) n W (List.replicate n []) ∧ w.grownBy W none := by
  generalize ho1 : Obj.cells #[.slice (some ⟨RW, 0, none⟩) n n] 24 = o1
  generalize ho2 : Obj.cells #[.bool false, .bool false, .bool false, .bool false, .bool false, .bool false, .bool false, .bool false, .bool false, .bool false] 101 = o2
  generalize ho3 : Obj.cells #[.func (.func 90) #[] #[.pointer (some ⟨w.heap.size + 1 + 1 + 1, 0, none⟩)]] 102 = o3
  generalize ho4 : Obj.cells #[.func (.func 88) #[] #[.pointer (some ⟨w.heap.size + 1, 0, none⟩), .pointer (some ⟨w.heap.size, 0, none⟩), .pointer (some ⟨PB, 0, none⟩), .pointer (some ⟨w.heap.size + 1 + 1, 0, none⟩)]] 104 = o4
  have hg : w.grownBy ((((w.alloc o1).alloc o2).alloc o3).alloc o4) none := gb_alloc (gb_alloc (gb_alloc (gb_alloc (gb_refl w none) _) _) _) _
  have b1 : Blk (w.alloc o1) w.heap.size 24 _ := ho1 ▸ Blk.new w _ _
  have b2 := Blk.new (w.alloc o1) 101 #[.bool false, .bool false, .bool false, .bool false, .bool false, .bool false, .bool false, .bool false, .bool false, .bool false]
  rw [World.size_alloc, ho2] at b2
  have b3 := Blk.new ((w.alloc o1).alloc o2) 102 #[.func (.func 90) #[] #[.pointer (some ⟨w.heap.size + 1 + 1 + 1, 0, none⟩)]]
  rw [World.size_alloc, World.size_alloc, ho3] at b3
  have b4 := Blk.new (((w.alloc o1).alloc o2).alloc o3) 104 #[.func (.func 88) #[] #[.pointer (some ⟨w.heap.size + 1, 0, none⟩), .pointer (some ⟨w.heap.size, 0, none⟩), .pointer (some ⟨PB, 0, none⟩), .pointer (some ⟨w.heap.size + 1 + 1, 0, none⟩)]]
  rw [World.size_alloc, World.size_alloc, World.size_alloc, ho4] at b4
  refine ⟨_, rfl, ⟨⟨_, (b2.alloc _).alloc _, rfl, fun i hi => ⟨false, ?_, fun e => by cases e⟩⟩, ((b1.alloc _).alloc _).alloc _, ho.new hg, by simp, hn, hB.grown hg (by simp), b3.alloc _, b4, hr.new hg, ⟨by omega, by omega⟩, ⟨h1, by omega⟩, ?_⟩, hg⟩
  · have : i = 0 ∨ i = 1 ∨ i = 2 ∨ i = 3 ∨ i = 4 ∨ i = 5 ∨ i = 6 ∨ i = 7 ∨ i = 8 ∨ i = 9 := by omega
    rcases this with rfl | rfl | rfl | rfl | rfl | rfl | rfl | rfl | rfl | rfl <;> rfl
  · rw [World.size_alloc, World.size_alloc, World.size_alloc, World.size_alloc]
    exact Nat.le_refl _
/-- What ValuesOf answers: the rows, and whether the plan is valid. -/
def ValuesPost (w : World) (plan : List Node) (e : Ending) (w' : World) : Prop :=
  ∃ v, e = .returned (.tuple #[v, .bool (planValid plan)]) ∧ OwnLI w' w.heap.size v (if planValid plan = true then values plan else []) ∧ w.grownBy w' none
set_option maxHeartbeats 1600000 in
set_option maxRecDepth 20000 in
theorem valuesOf_any (v : Value) (plan : List Node) (w : World) (h : RN w v plan) : Calls Tryz.prog 44 #[v] w (ValuesPost w plan) := by
  obtain ⟨A, n, c, rfl, hnc, hn, hn9⟩ := h.form'
  have Hn := Lib.hid hn
  clear hn hn9
  cases hv : planValid plan with
  | false =>
    have Hv := Lib.hid hv
    clear hv
    go_enter Tryz.func44, Tryz.ntmps44
    go_wp2_with fail
    refine (implPlanValid_b _ plan _ (h.alloc _) Hv.out).mono ?_
    rintro e w1 ⟨rfl, hg1⟩
    go_wp2_with fail
    go_ret2
    have hfin : ValuesPost w plan (.returned (.tuple #[.slice none 0 0, .bool false])) w1 := by
      refine ⟨_, by rw [Hv.out], ?_, gb_trans (World.grownBy_alloc w _ none) hg1⟩
      rw [Hv.out]
      exact OwnLI.nil _ _
    exact hfin
  | true =>
    have hn10 : n ≤ 10 := by have := planValid_len hv; have := Hn.out; omega
    have Hv := Lib.hid hv
    clear hv
    obtain ⟨i0, hif, hz0, hz1, hz2⟩ := info_parts info25
    have hga := World.grownBy_alloc w (.cells #[.slice A n c] 23) none
    have hB := Blk.new w 23 #[.slice A n c]
    go_enter Tryz.func44, Tryz.ntmps44
    go_upto_region 1 with fail
    generalize w.alloc (.cells #[.slice A n c] 23) = wa at hB hga ⊢
    have a0 : wa.cell? ⟨w.heap.size, 0, none⟩ = some (.slice A n c) := hB.cell 0
    go_wp2_with fail
    refine (implPlanValid_b _ plan _ (h.new hga) Hv.out).mono ?_
    rintro e w1 ⟨rfl, hg1⟩
    have hB1 := hB.grown hg1 (by simp)
    have b0 : w1.cell? ⟨w.heap.size, 0, none⟩ = some (.slice A n c) := hB1.cell 0
    go_upto_region 4 with (at_make; go_must (refine wpList_make_full _ rfl _ _ 24 rfl w1.heap.size 25 i0 _ 1 Tryz.underlying24 hif hz0 hz1 _ _ _ _ n rfl rfl rfl rfl (by rw [hz2]; omega) (by unfold maxLen; omega) (Nat.le_refl _) ?_))
    intro w2 hown hg2
    have ho : OwnLI w2 w1.heap.size (.slice (some ⟨w1.heap.size, 0, none⟩) n n) (List.replicate n []) := by
      refine OwnLI.made ?_
      have e : n * 1 = n := Nat.mul_one n
      first | exact hown | (rw [e] at hown; exact hown) | (simp at hown; exact hown)
    have hlt2 := (hown.lt w1.heap.size rfl).2
    clear hown
    go_upto_region 8 with fail
    have hg12 := gb_trans hga (gb_trans hg1 hg2)
    obtain ⟨W, hW, hst, hgW⟩ := VSt.start (hB1.grown hg2 (by simp)) (h.new hg12) ho Hn.out.symm (Nat.le_refl _) hlt2
    rw [← hW]
    have hgW0 := gb_trans hg12 hgW
    have hlo : w.heap.size ≤ w1.heap.size := (gb_trans hga hg1).size
    clear hW hgW ho hg12 hg2 hg1 hga hB1 hB a0 b0
    have p0 : W.cell? ⟨w.heap.size, 0, none⟩ = some (.slice A n c) := hst.pb.cell 0
    generalize w2.heap.size = z2 at hst ⊢
    generalize w1.heap.size = z1 at hst hlo ⊢
    go_wp2_with fail
    clear p0
    go_loopg [8, 19] (n + 1) (fun mm x8 i wr => ∃ (q : Nat) (rws : List (List Int)), q ≤ n ∧ mm = n + 1 - q ∧ i = .int .i64 q ∧ VSt plan (.slice A n c) z1 (z2 + 1 + 1 + 1 + 1) (z2 + 1) z2 z1 w.heap.size (z2 + 1 + 1) (z2 + 1 + 1 + 1) n wr rws ∧ w.grownBy wr none ∧ Hid (∀ i : Nat, i < q → rws[i]? = some (valAt plan i)))
    case atStart => exact ⟨0, _, Nat.zero_le _, rfl, rfl, hst, hgW0, fun i hi => absurd hi (Nat.not_lt_zero _)⟩
    case round =>
      clear hst hgW0
      obtain ⟨q, rws, hq, rfl, rfl, hst, hg, hdone⟩ := hrel
      by_cases hlt : q < n
      · have r0 : wr.cell? ⟨z2 + 1 + 1 + 1, 0, none⟩ = some _ := hst.ro.cell 0
        go_wp2_with fail
        refine (rowOf_all hn10 Hv.out q hlt wr rws hst).mono ?_
        rintro e w4 ⟨u, rws', rfl, hu, hst4, hfr4, hm4, hk4⟩
        have hg4 := hfr4.z.gb hg hlo
        have hd4 : Hid (∀ i : Nat, i < q + 1 → rws'[i]? = some (valAt plan i)) := fun i hi => by
          by_cases hiq : i = q
          · subst hiq; exact hk4
          · exact hm4 i (hdone.out i (by omega))
        obtain ⟨A', n', c', rfl⟩ := hu.val
        clear hm4 hk4 hdone hst hfr4 hg r0
        go_wp2_with fail
        go_roundg (n + 1 - (q + 1))
        case measure => omega
        case rel => exact ⟨q + 1, rws', by omega, rfl, by go_num, hst4, hg4, hd4⟩
      · obtain rfl : q = n := by omega
        have hrows : rws = values plan := by
          apply List.ext_getElem?
          intro i
          by_cases hi : i < q
          · rw [hdone.out i hi, valAt_get (by rw [← Hn.out]; exact hi)]
          · rw [List.getElem?_eq_none (by rw [hst.rl]; omega), List.getElem?_eq_none (by rw [values_len, ← Hn.out]; omega)]
        have hR := hst.rw.low hlo
        rw [hrows] at hR
        have q0 := hst.rbc
        have hfin : Hid (ValuesPost w plan (.returned (.tuple #[.slice (some ⟨z1, 0, none⟩) q q, .bool true])) wr) := by
          refine ⟨_, by rw [Hv.out], ?_, hg⟩
          rw [Hv.out]
          exact hR
        clear hrows hdone hst
        go_wp2_with fail
        go_ret2
        exact hfin
/-- What ValueOf answers. -/
def ValueOfPost (w : World) (plan : List Node) (k : Nat) (e : Ending) (w' : World) : Prop := ∃ v, e = .returned (.tuple #[v, .bool true]) ∧ OwnI w' w.heap.size v (valAt plan k) ∧ w.grownBy w' none
set_option maxHeartbeats 800000 in
set_option maxRecDepth 20000 in
theorem valueOf_any (v : Value) (plan : List Node) (k : Nat) (w : World) (h : RN w v plan) (hv : planValid plan = true) (hk : k < plan.length) : Calls Tryz.prog 23 #[v, .int .i64 k] w (ValueOfPost w plan k) := by
  obtain ⟨A, n, c, rfl, hnc, hn, hn9⟩ := h.form'
  have Hn := Lib.hid hn
  have Hv := Lib.hid hv
  have hkn : k < n := by omega
  clear hn hn9 hv hk
  go_enter Tryz.func23, Tryz.ntmps23
  go_wp2_with fail
  refine (valuesOf_any _ plan w h).mono ?_
  rw [show ValuesPost w plan = fun e w' => ∃ v, e = .returned (.tuple #[v, .bool (planValid plan)]) ∧ OwnLI w' w.heap.size v (if planValid plan = true then values plan else []) ∧ w.grownBy w' none from rfl, Hv.out, if_pos rfl]
  rintro e w1 ⟨rv, rfl, hrv, hg1⟩
  obtain ⟨A2, n2, c2, rfl, hnc2, hn2, -⟩ := hrv.rl.form'
  have hn2' : n2 = n := by rw [hn2, values_len]; exact Hn.out.symm
  subst hn2'
  clear hn2
  obtain ⟨g3, l, u3, rfl, hl, hcl, hrl⟩ := hrv.at_ hkn
  have hval : l = valAt plan k := by
    rw [valAt_get (by rw [← Hn.out]; exact hkn)] at hl
    injection hl with hl
    exact hl.symm
  subst hval
  clear hl
  obtain ⟨B3, m3, e3, rfl⟩ := hrl.ri.val
  go_wp2_with fail
  refine (isNode_b A n2 c (k : Int) _ (b := true) (by simp; omega)).mono ?_
  rintro e w2 ⟨rfl, rfl⟩
  go_wp2_with fail
  go_ret2
  exact ⟨_, rfl, hrl, hg1⟩
end Go.Proofs.YtihobnheficpjaaGreatDoor
