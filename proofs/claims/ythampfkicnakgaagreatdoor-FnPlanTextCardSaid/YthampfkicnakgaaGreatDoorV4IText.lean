/- Walks: impl.ValuesOf, its closures rowOf (ValuesOf$1) and gather (ValuesOf$2). · Walks: impl.ValuesOf. · Walks: impl.PlanText. -/
import Derived.Test.YthampfkicnakgaaGreatDoorS4Run
import Derived.Test.YthampfkicnakgaaGreatDoorA23PlanText
import Derived.Test.YthampfkicnakgaaGreatDoorE6Marks
import Derived.Deep.LoopGhost
import Derived.Test.YthampfkicnakgaaGreatDoorC6GraphOf
import Derived.Test.YthampfkicnakgaaGreatDoorT14Node
import Derived.Test.YthampfkicnakgaaGreatDoorShelf3
namespace Go.Proofs.YthampfkicnakgaaGreatDoor
open Go.RowKit

theorem TS.blk {w w' : World} {E : TypeId} {size n : Nat} {v : Value} {xs : List Value} (h : TS w E size v n xs) (k : ∀ g cs, Blk w g E cs → Blk w' g E cs) : TS w' E size v n xs := by
  obtain ⟨h0, A, c, h1, h2, h3, h4, h5⟩ := h
  refine ⟨h0, A, c, h1, h2, h3, h4, ?_⟩
  rcases h5 with h5 | ⟨g, o, cur, hA, hb, hc⟩
  · exact .inl h5
  · exact .inr ⟨g, o, cur, hA, k g cur hb, hc⟩
/-- What a call of a closure leaves: only blocks from lo to hi may turn, and of them only the marks and the rows. -/
structure VFr (lo hi : Nat) (w w' : World) : Prop where
  z : Zn lo hi w w'
  o : ∀ g t cs, t ≠ 101 → t ≠ 24 → Blk w g t cs → Blk w' g t cs
theorem VFr.refl (lo hi : Nat) (w : World) : VFr lo hi w w := ⟨Zn.refl _ _ _, fun _ _ _ _ _ h => h⟩
theorem VFr.trans {lo hi : Nat} {a b c : World} (h : VFr lo hi a b) (k : VFr lo hi b c) : VFr lo hi a c := ⟨h.z.trans k.z, fun g t cs h1 h2 hb => k.o g t cs h1 h2 (h.o g t cs h1 h2 hb)⟩
theorem VFr.of_none {lo hi : Nat} {a b : World} (h : a.grownBy b none) : VFr lo hi a b := ⟨Zn.of_gb h (fun g e => by cases e), fun g t cs _ _ hb => hb.grown h (by simp)⟩
theorem VFr.of_row {lo hi : Nat} {a b : World} {g : Nat} {t : TypeId} {cs : Array Value} (h : a.grownBy b (some g)) (hg : lo ≤ g ∧ g < hi) (hb : Blk a g t cs) (ht : t = 101 ∨ t = 24) : VFr lo hi a b :=
  ⟨Zn.of_gb h (fun g' e => by cases e; exact hg), fun g' t' cs' h1 h2 hb' => hb'.grown h (fun e => by
    injection e with e
    subst e
    have := hb.symm.trans hb'
    injection this with this
    injection this with _ this
    rcases ht with rfl | rfl
    · exact h1 this.symm
    · exact h2 this.symm)⟩
theorem VFr.own {lo hi : Nat} {a b c : World} {g : Nat} (h : VFr lo hi a b) (k : b.grownBy c (some g)) (hg : a.heap.size ≤ g) : VFr lo hi a c :=
  ⟨⟨k.os.trans h.z.os, k.tape.trans h.z.tape, k.output.trans h.z.output, Nat.le_trans h.z.size k.size, fun i hi hr => (k.block i (Nat.lt_of_lt_of_le hi h.z.size) (fun e => by injection e with e; omega)).trans (h.z.block i hi hr)⟩,
    fun g' t cs h1 h2 hb => (h.o g' t cs h1 h2 hb).grown k (fun e => by injection e with e; have := hb.lt; omega)⟩
theorem RI.fr {lo hi : Nat} {w w' : World} {v : Value} {l : List Int} (h : RI w v l) (k : VFr lo hi w w') : RI w' v l := TS.blk h (fun g cs => k.o g _ cs (by decide) (by decide))
theorem RN.fr {lo hi : Nat} {w w' : World} {v : Value} {plan : List Node} (h : RN w v plan) (k : VFr lo hi w w') : RN w' v plan := by
  obtain ⟨xs, h1, h2⟩ := h
  refine ⟨xs, h1.blk (fun g cs => k.o g _ cs (by decide) (by decide)), fun i nd hi => ?_⟩
  obtain ⟨f, r, k1, k2, k3, k4, k5⟩ := h2 i nd hi
  exact ⟨f, r, k1, k2, k3, k4.fr k, k5.fr k⟩
theorem OwnL.fr {lo hi base : Nat} {w w' : World} {v : Value} {ll : List (List Int)} (h : OwnL w base v ll) (k : VFr lo hi w w') (hb : hi ≤ base) : OwnL w' base v ll := by
  obtain ⟨xs, h1, h2⟩ := h
  exact ⟨xs, own_zone h1 k.z hb, fun i l hi => let ⟨u, k1, k2⟩ := h2 i l hi; ⟨u, k1, k2.fr k⟩⟩
/-- The closures' common store: marks in block M, the rows' variable RB, the rows RW, the plan's variable PB, the closures' variables GB and RO. -/
structure VSt (plan : List Node) (V : Value) (lo hi M RB RW PB GB RO n : Nat) (w : World) (rows : List (List Int)) : Prop where
  mm : ∃ cs, Blk w M 101 cs ∧ cs.size = 10 ∧ ∀ i : Nat, i < 10 → ∃ b, cs[i]? = some (.bool b) ∧ (b = true → rows[i]? = some (valAt plan i))
  rb : Blk w RB 59 #[.slice (some ⟨RW, 0, none⟩) n n]
  rw : OwnL w lo (.slice (some ⟨RW, 0, none⟩) n n) rows
  rl : rows.length = n
  pl : plan.length = n
  pb : Blk w PB 31 #[V]
  gb : Blk w GB 102 #[.func (.func 62) #[] #[.pointer (some ⟨RO, 0, none⟩)]]
  ro : Blk w RO 105 #[.func (.func 59) #[] #[.pointer (some ⟨M, 0, none⟩), .pointer (some ⟨RB, 0, none⟩), .pointer (some ⟨PB, 0, none⟩), .pointer (some ⟨GB, 0, none⟩)]]
  rn : RN w V plan
  hm : lo ≤ M ∧ M < hi
  hr : lo ≤ RW ∧ RW < hi
  hh : hi ≤ w.heap.size
section
variable {plan : List Node} {V : Value} {lo hi M RB RW PB GB RO n : Nat} {w w' : World} {rows : List (List Int)}
theorem VSt.new (h : VSt plan V lo hi M RB RW PB GB RO n w rows) (hg : w.grownBy w' none) : VSt plan V lo hi M RB RW PB GB RO n w' rows := by
  obtain ⟨cs, m1, m2, m3⟩ := h.mm
  exact ⟨⟨cs, m1.grown hg (by simp), m2, m3⟩, h.rb.grown hg (by simp), h.rw.new hg, h.rl, h.pl, h.pb.grown hg (by simp), h.gb.grown hg (by simp), h.ro.grown hg (by simp), h.rn.new hg, h.hm, h.hr, Nat.le_trans h.hh hg.size⟩
theorem VSt.rwb (h : VSt plan V lo hi M RB RW PB GB RO n w rows) (hn : 0 < n) : ∃ cur, Blk w RW 24 cur := by
  obtain ⟨g, cap, cur, e, _, _, hb, _⟩ := h.rw.form h.rl hn
  injection e with e
  injection e with e
  injection e with e
  subst e
  exact ⟨cur, hb⟩
theorem VSt.far (h : VSt plan V lo hi M RB RW PB GB RO n w rows) {g : Nat} {cur : Array Value} (hg : w.grownBy w' (some g)) (hB : Blk w g 24 cur) (hge : hi ≤ g) : VSt plan V lo hi M RB RW PB GB RO n w' rows := by
  have k1 : VFr g (g + 1) w w' := VFr.of_row hg ⟨Nat.le_refl _, Nat.lt_succ_self _⟩ hB (.inr rfl)
  obtain ⟨cs, m1, m2, m3⟩ := h.mm
  obtain ⟨xs, o1, o2⟩ := h.rw
  have hr := h.hr
  have hh := h.hh
  refine ⟨⟨cs, m1.grown hg (fun e => ?_), m2, m3⟩, k1.o _ _ _ (by decide) (by decide) h.rb, ⟨xs, ⟨o1.1, ?_⟩, fun i l hi => let ⟨u, a, b⟩ := o2 i l hi; ⟨u, a, b.fr k1⟩⟩, h.rl, h.pl, k1.o _ _ _ (by decide) (by decide) h.pb, k1.o _ _ _ (by decide) (by decide) h.gb, k1.o _ _ _ (by decide) (by decide) h.ro, h.rn.fr k1, h.hm, h.hr, Nat.le_trans h.hh hg.size⟩
  · injection e with e
    exact m1.ne_ hB (by decide) e
  · rcases o1.2 with h0 | ⟨g', cap, cur', e, h2, h3, h4⟩
    · exact .inl h0
    · injection e with e1 e2 e3
      injection e1 with e1
      injection e1 with e1
      subst e1
      exact .inr ⟨RW, cap, cur', by rw [← e2, ← e3], h2, (hg.block RW (by omega) (fun e => by injection e with e; omega)).trans h3, h4⟩
theorem VSt.slot (h : VSt plan V lo hi M RB RW PB GB RO n w rows) {k : Nat} (hk : k < n) : (∃ u, w.cell? ⟨RW, k, none⟩ = some u) ∧ w.frozen? ⟨RW, k, none⟩ = false := by
  obtain ⟨g, cap, cur, e, _, _, hb, hc⟩ := h.rw.form h.rl (by omega)
  obtain rfl : RW = g := by injection e with e; injection e with e; injection e
  exact ⟨hc k hk, hb.frozen k⟩
theorem VSt.mslot (h : VSt plan V lo hi M RB RW PB GB RO n w rows) {k : Nat} (hk : k < 10) : (∃ u, w.cell? ⟨M, k, none⟩ = some u) ∧ w.frozen? ⟨M, k, none⟩ = false := by
  obtain ⟨cs, m1, m2, m3⟩ := h.mm
  obtain ⟨b, b1, -⟩ := m3 k hk
  exact ⟨⟨_, (m1.cell k).trans b1⟩, m1.frozen k⟩
theorem VSt.gbc (h : VSt plan V lo hi M RB RW PB GB RO n w rows) : w.cell? ⟨GB, 0, none⟩ = some (.func (.func 62) #[] #[.pointer (some ⟨RO, 0, none⟩)]) := h.gb.cell 0
theorem VSt.rowc (h : VSt plan V lo hi M RB RW PB GB RO n w rows) {k : Nat} (hk : k < n) (hr : rows[k]? = some (valAt plan k)) : ∃ B m e, w.cell? ⟨RW, k, none⟩ = some (.slice B m e) ∧ RI w (.slice B m e) (valAt plan k) := by
  obtain ⟨g, o, l, B, m, e, hA, hl, hc, hrl, -, -, -⟩ := h.rw.rl.at_ hk
  injection hA with hA
  injection hA with hA1 hA2
  subst hA1 hA2
  rw [hl] at hr
  injection hr with hr
  subst hr
  rw [Nat.zero_add] at hc
  exact ⟨B, m, e, hc, hrl⟩
theorem VSt.nes (h : VSt plan V lo hi M RB RW PB GB RO n w rows) (hn : 0 < n) {x : Nat} {cs : Array Value} (hx : Blk w x 66 cs) : x ≠ RW ∧ RB ≠ RW ∧ GB ≠ RW := by
  obtain ⟨cur, hb⟩ := h.rwb hn
  exact ⟨hx.ne_ hb (by decide), h.rb.ne_ hb (by decide), h.gb.ne_ hb (by decide)⟩
theorem VSt.rbc (h : VSt plan V lo hi M RB RW PB GB RO n w rows) : w.cell? ⟨RB, 0, none⟩ = some (.slice (some ⟨RW, 0, none⟩) n n) := h.rb.cell 0
/-- A row is put in: node k's own, or any other where none is marked. -/
theorem VSt.row (h : VSt plan V lo hi M RB RW PB GB RO n w rows) {k : Nat} {u : Value} (hk : k < n) (hu : RI w u (valAt plan k)) : VSt plan V lo hi M RB RW PB GB RO n (w.setCell ⟨RW, k, none⟩ u) (rows.set k (valAt plan k)) ∧ VFr lo hi w (w.setCell ⟨RW, k, none⟩ u) := by
  obtain ⟨cur, hB⟩ := h.rwb (by omega)
  have hst : w.grownBy (w.setCell ⟨RW, k, none⟩ u) (some RW) := gb_set (p := ⟨RW, k, none⟩) (gb_refl w (some RW)) (.inr rfl) _
  have k1 : VFr lo hi w (w.setCell ⟨RW, k, none⟩ u) := VFr.of_row hst h.hr hB (.inr rfl)
  obtain ⟨cs, m1, m2, m3⟩ := h.mm
  refine ⟨⟨⟨cs, m1.grown hst (fun e => ?_), m2, fun i hi => ?_⟩, k1.o _ _ _ (by decide) (by decide) h.rb, h.rw.set_ h.rl hk hu, by rw [List.length_set]; exact h.rl, h.pl, k1.o _ _ _ (by decide) (by decide) h.pb, k1.o _ _ _ (by decide) (by decide) h.gb, k1.o _ _ _ (by decide) (by decide) h.ro, h.rn.fr k1, h.hm, h.hr, Nat.le_trans h.hh hst.size⟩, k1⟩
  · injection e with e
    exact m1.ne_ hB (by decide) e
  · obtain ⟨b, b1, b2⟩ := m3 i hi
    refine ⟨b, b1, fun hb => ?_⟩
    by_cases hik : i = k
    · subst hik
      rw [List.getElem?_set_self (by rw [h.rl]; exact hk)]
    · rw [List.getElem?_set_ne (fun e => hik e.symm)]
      exact b2 hb
/-- Node k is marked. -/
theorem VSt.mark (h : VSt plan V lo hi M RB RW PB GB RO n w rows) {k : Nat} (hk : k < 10) (hr : rows[k]? = some (valAt plan k)) : VSt plan V lo hi M RB RW PB GB RO n (w.setCell ⟨M, k, none⟩ (.bool true)) rows ∧ VFr lo hi w (w.setCell ⟨M, k, none⟩ (.bool true)) := by
  obtain ⟨cs, m1, m2, m3⟩ := h.mm
  have hst : w.grownBy (w.setCell ⟨M, k, none⟩ (.bool true)) (some M) := gb_set (p := ⟨M, k, none⟩) (gb_refl w (some M)) (.inr rfl) _
  have k1 : VFr lo hi w (w.setCell ⟨M, k, none⟩ (.bool true)) := VFr.of_row hst h.hm m1 (.inl rfl)
  refine ⟨⟨⟨_, m1.set_ k _, by rw [Array.size_setIfInBounds]; exact m2, fun i hi => ?_⟩, k1.o _ _ _ (by decide) (by decide) h.rb, h.rw.grown hst (NotE.blk m1 (by decide)) (NotE.blk m1 (by decide)), h.rl, h.pl, k1.o _ _ _ (by decide) (by decide) h.pb, k1.o _ _ _ (by decide) (by decide) h.gb, k1.o _ _ _ (by decide) (by decide) h.ro, h.rn.fr k1, h.hm, h.hr, Nat.le_trans h.hh hst.size⟩, k1⟩
  by_cases hik : i = k
  · subst hik
    exact ⟨true, by rw [Array.getElem?_setIfInBounds]; simp [m2, hi], fun _ => hr⟩
  · obtain ⟨b, b1, b2⟩ := m3 i hi
    exact ⟨b, by rw [Array.getElem?_setIfInBounds, if_neg (fun e => hik e.symm)]; exact b1, b2⟩
/-- What a row's turn leaves at its half: the row is in. -/
def RowMid (plan : List Node) (V : Value) (lo hi M RB RW PB GB RO n k : Nat) (w : World) (rows : List (List Int)) (w' : World) : Prop :=
  ∃ rows', VSt plan V lo hi M RB RW PB GB RO n w' rows' ∧ VFr lo hi w w' ∧ (∀ i : Nat, rows[i]? = some (valAt plan i) → rows'[i]? = some (valAt plan i)) ∧ rows'[k]? = some (valAt plan k)
theorem VSt.mid (h : VSt plan V lo hi M RB RW PB GB RO n w' rows) {w0 : World} {rows0 : List (List Int)} (hfr : VFr lo hi w0 w') (hm : ∀ i : Nat, rows0[i]? = some (valAt plan i) → rows[i]? = some (valAt plan i)) {k : Nat} {u : Value} (hk : k < n) (hu : RI w' u (valAt plan k)) :
    RowMid plan V lo hi M RB RW PB GB RO n k w0 rows0 (w'.setCell ⟨RW, k, none⟩ u) := by
  have hkl : k < rows.length := by rw [h.rl]; exact hk
  obtain ⟨h1, h2⟩ := h.row hk hu
  refine ⟨_, h1, hfr.trans h2, fun i hi => ?_, by rw [List.getElem?_set_self hkl]⟩
  by_cases hik : i = k
  · subst hik
    rw [List.getElem?_set_self hkl]
  · rw [List.getElem?_set_ne (fun e => hik e.symm)]
    exact hm i hi
end
/-- What a call of rowOf leaves. -/
def RowOfPost (plan : List Node) (V : Value) (lo hi M RB RW PB GB RO n k : Nat) (w : World) (rows : List (List Int)) (e : Ending) (w' : World) : Prop :=
  ∃ v rows', e = .returned v ∧ RI w' v (valAt plan k) ∧ VSt plan V lo hi M RB RW PB GB RO n w' rows' ∧ VFr lo hi w w' ∧ (∀ i : Nat, rows[i]? = some (valAt plan i) → rows'[i]? = some (valAt plan i)) ∧ rows'[k]? = some (valAt plan k)
/-- What a call of gather leaves. -/
def GatherPost (plan : List Node) (V : Value) (lo hi M RB RW PB GB RO n : Nat) (l : List Int) (w : World) (rows : List (List Int)) (e : Ending) (w' : World) : Prop :=
  ∃ v rows', e = .returned v ∧ RL w' v (l.map fun j => valAt plan j.toNat) ∧ VSt plan V lo hi M RB RW PB GB RO n w' rows' ∧ VFr lo hi w w' ∧ (∀ i : Nat, rows[i]? = some (valAt plan i) → rows'[i]? = some (valAt plan i))
def RowOfAt (plan : List Node) (V : Value) (lo hi M RB RW PB GB RO n k : Nat) : Prop :=
  ∀ w rows, VSt plan V lo hi M RB RW PB GB RO n w rows → Calls Tryz.prog 59 #[.int .i64 k, .pointer (some ⟨M, 0, none⟩), .pointer (some ⟨RB, 0, none⟩), .pointer (some ⟨PB, 0, none⟩), .pointer (some ⟨GB, 0, none⟩)] w (RowOfPost plan V lo hi M RB RW PB GB RO n k w rows)
set_option maxHeartbeats 1600000 in
set_option maxRecDepth 20000 in
theorem gather_any {plan : List Node} {V : Value} {lo hi M RB RW PB GB RO n k : Nat} (IH : ∀ j, j < k → RowOfAt plan V lo hi M RB RW PB GB RO n j) (_hk : k ≤ n) (_hn : n ≤ 10) {v : Value} {l : List Int} {w : World} {rows : List (List Int)} (h : VSt plan V lo hi M RB RW PB GB RO n w rows) (hl : RI w v l) (hl2 : l.length ≤ 2) (hin : ∀ y ∈ l, 0 ≤ y ∧ y < k) :
    Calls Tryz.prog 62 #[v, .pointer (some ⟨RO, 0, none⟩)] w (GatherPost plan V lo hi M RB RW PB GB RO n l w rows) := by
  obtain ⟨A, m, c, rfl, hmc, hm⟩ := hl.form'
  rw [← hm] at hl2
  have Hm := Lib.hid hm
  have Hin := Lib.hid hin
  have HIH := Lib.hid IH
  clear hm hin IH
  obtain ⟨i0, hif, hz0, hz1, hz2⟩ := info_parts info24
  go_enter Tryz.func62, Tryz.ntmps62
  go_wp2_with (at_make; go_must (refine wpList_make_full _ rfl _ _ 59 rfl w.heap.size 24 i0 _ 1 Tryz.underlying59 hif hz0 hz1 _ _ _ _ m rfl rfl rfl rfl (by rw [hz2]; omega) (by unfold maxLen; omega) (Nat.le_refl _) ?_))
  intro w1 hown hg1
  have ho1 : OwnL w1 w.heap.size (.slice (some ⟨w.heap.size, 0, none⟩) m m) (List.replicate m []) := by
    refine OwnL.made ?_
    have e : m * 1 = m := Nat.mul_one m
    first | exact hown | (rw [e] at hown; exact hown) | (simp at hown; exact hown)
  have hlt1 := (hown.lt w.heap.size rfl).2
  clear hown
  have h1 := h.new hg1
  have hl1 := hl.new hg1
  go_wp2_with fail
  obtain ⟨ll, hll⟩ : ∃ ll, ll = l.map fun j => valAt plan j.toNat := ⟨_, rfl⟩
  have hlm : Hid (ll.length = m) := by show _ = _; rw [hll, List.length_map, Hm.out]
  have Hll := Lib.hid hll
  have hstart : Hid (OwnL w1 w.heap.size (.slice (some ⟨w.heap.size, 0, none⟩) m m) (ll.take 0 ++ List.replicate (m - 0) [])) := by show OwnL _ _ _ _; simpa using ho1
  have hhi := h.hh
  have hfr1 : VFr lo hi w w1 := VFr.of_none hg1
  clear ho1 hll h hl1
  go_loopg [5, 6, 12] (m + 1) (fun mm x5 x6 i wr => ∃ (q : Nat) (rws : List (List Int)), q ≤ m ∧ mm = m + 1 - q ∧ i = .int .i64 q ∧ VSt plan V lo hi M RB RW PB GB RO n wr rws ∧ VFr lo hi w wr ∧ Hid (∀ i : Nat, rows[i]? = some (valAt plan i) → rws[i]? = some (valAt plan i)) ∧ Hid (OwnL wr w.heap.size (.slice (some ⟨w.heap.size, 0, none⟩) m m) (ll.take q ++ List.replicate (m - q) [])) ∧ w.heap.size < wr.heap.size)
  case atStart => exact ⟨0, rows, Nat.zero_le _, rfl, rfl, h1, hfr1, fun _ hi => hi, hstart, hlt1⟩
  case round =>
    clear h1 hstart hfr1
    obtain ⟨q, rws, hq, rfl, rfl, hst, hfr, hmono, hO, hsz⟩ := hrel
    by_cases hlt : q < m
    · have hlr := hl.fr hfr
      obtain ⟨g, o, y, rfl, hy, c0⟩ := hlr.at_ hlt
      obtain ⟨hy0, hy1⟩ := Hin.out y (List.mem_of_getElem? hy)
      obtain ⟨j, rfl⟩ := Int.eq_ofNat_of_zero_le hy0
      have hj : j < k := by omega
      have r0 : wr.cell? ⟨RO, 0, none⟩ = some _ := hst.ro.cell 0
      have hx : ll[q]? = some (valAt plan j) := by rw [Hll.out, List.getElem?_map, hy]; rfl
      have hset : Hid ((ll.take q ++ List.replicate (m - q) ([] : List Int)).set q (valAt plan j) = ll.take (q + 1) ++ List.replicate (m - (q + 1)) []) := by
        show _ = _
        obtain ⟨hk', hx'⟩ := List.getElem?_eq_some_iff.1 hx
        have hsl : (ll.take q).length = q := by rw [List.length_take]; omega
        rw [List.set_append_right _ _ (by omega), hsl, Nat.sub_self, show m - q = m - (q + 1) + 1 by omega, List.replicate_succ, List.set_cons_zero, List.take_succ_eq_append_getElem hk', hx', List.append_assoc]
        rfl
      have Hlen : Hid ((ll.take q ++ List.replicate (m - q) ([] : List Int)).length = m) := by
        show _ = _
        rw [List.length_append, List.length_replicate, List.length_take, hlm.out]
        omega
      clear hx hy hy0 hy1
      go_wp2_with fail
      refine (HIH.out j hj wr rws hst).mono ?_
      rintro e w4 ⟨u, rws', rfl, hu, hst4, hfr4, hm4, -⟩
      obtain ⟨A', n', c', rfl⟩ := hu.val
      have hO4 := hO.out.fr hfr4 hhi
      obtain ⟨g2, cap2, cur2, he2, -, -, hB2, hc2⟩ := hO4.form Hlen.out (by omega)
      obtain rfl : w.heap.size = g2 := by injection he2 with he2; injection he2 with he2; injection he2
      clear he2
      obtain ⟨u0, c4⟩ := hc2 q hlt
      have f4 : w4.frozen? ⟨w.heap.size, q, none⟩ = false := hB2.frozen q
      have hO5 := hO4.set_ Hlen.out hlt hu
      rw [hset.out] at hO5
      have HO5 := Lib.hid hO5
      have hgs : w4.grownBy (w4.setCell ⟨w.heap.size, q, none⟩ (.slice A' n' c')) (some w.heap.size) := gb_set (p := ⟨w.heap.size, q, none⟩) (gb_refl w4 _) (.inr rfl) _
      have hst5 := hst4.far hgs hB2 hhi
      have hfr5 : VFr lo hi w (w4.setCell ⟨w.heap.size, q, none⟩ (.slice A' n' c')) := (hfr.trans hfr4).own hgs (Nat.le_refl _)
      have hm5 : Hid (∀ i : Nat, rows[i]? = some (valAt plan i) → rws'[i]? = some (valAt plan i)) := fun i hi => hm4 i (hmono.out i hi)
      have hsz5 : w.heap.size < (w4.setCell ⟨w.heap.size, q, none⟩ (.slice A' n' c')).heap.size := by have := hgs.size; have := hfr4.z.size; omega
      clear hO hO4 hO5 hset hm4 hmono hst4 hfr hfr4 hst
      go_wp2_with fail
      go_roundg (m + 1 - (q + 1))
      case measure => omega
      case rel => exact ⟨q + 1, rws', by omega, rfl, by go_num, hst5, hfr5, hm5, HO5, hsz5⟩
    · obtain rfl : q = m := by omega
      have hO2 : RL wr (.slice (some ⟨w.heap.size, 0, none⟩) q q) ll := by
        have := hO.out
        rw [Nat.sub_self, List.replicate_zero, List.append_nil, List.take_of_length_le (by rw [hlm.out]; exact Nat.le_refl _)] at this
        exact this.rl
      rw [Hll.out] at hO2
      clear hO
      go_wp2_with fail
      go_ret
      exact ⟨_, rws, rfl, hO2, hst, hfr, hmono.out⟩
set_option maxHeartbeats 1600000 in
set_option maxRecDepth 20000 in
theorem rowOf_step {plan : List Node} {V : Value} {lo hi M RB RW PB GB RO n k : Nat} (IH : ∀ j, j < k → RowOfAt plan V lo hi M RB RW PB GB RO n j) (hk : k < n) (hn : n ≤ 10) (hv : planValid plan = true) : RowOfAt plan V lo hi M RB RW PB GB RO n k := by
  intro w rows h
  obtain ⟨A, n', c, rfl, hnc, hn', -⟩ := h.rn.form'
  obtain ⟨cs, m1, m2, m3⟩ := h.mm
  obtain ⟨b, b1, b2⟩ := m3 k (by omega)
  have d0 : w.cell? ⟨M, k, none⟩ = some (.bool b) := (m1.cell k).trans b1
  have d1 : w.cell? ⟨RB, 0, none⟩ = some _ := h.rb.cell 0
  have Hb := Lib.hid b2
  clear m1 m2 m3 b1 b2
  cases b with
  | true =>
    obtain ⟨g, o, l, B, m, e, hA, hl, hc, hrl, -, -, -⟩ := h.rw.rl.at_ hk
    injection hA with hA
    injection hA with hA1 hA2
    subst hA1 hA2
    have hrow := Hb.out rfl
    rw [hl] at hrow
    injection hrow with hrow
    subst hrow
    have Hl := Lib.hid hl
    rw [Nat.zero_add] at hc
    clear hl hn' hnc
    go_enter Tryz.func59, Tryz.ntmps59
    go_wp2_with fail
    go_ret
    exact ⟨_, rows, rfl, hrl, h, VFr.refl _ _ _, fun _ hi => hi, Hl.out⟩
  | false =>
    have hn'2 : n' = n := hn'.trans h.pl
    subst hn'2
    obtain ⟨g, o, nd, f, r, rfl, hx, c0, c1, c2', hf, hr⟩ := h.rn.at_ hk
    obtain ⟨Af, nf, cf, rfl⟩ := hf.val
    obtain ⟨Ar, nr, cr, rfl⟩ := hr.val
    have p0 : w.cell? ⟨PB, 0, none⟩ = some _ := h.pb.cell 0
    have Hx := Lib.hid hx
    clear hx hn'
    go_enter Tryz.func59, Tryz.ntmps59
    go_upto_region 4 with fail
    have hga := World.grownBy_alloc w (.cells #[.int .i64 nd.kind, .slice Af nf cf, .slice Ar nr cr] 66) none
    have hB := Blk.new w 66 #[.int .i64 nd.kind, .slice Af nf cf, .slice Ar nr cr]
    generalize w.alloc (.cells #[.int .i64 nd.kind, .slice Af nf cf, .slice Ar nr cr] 66) = wa at hB hga ⊢
    have a0 : wa.cell? ⟨w.heap.size, 0, none⟩ = some (.int .i64 nd.kind) := hB.cell 0
    have haD := gb_drew hga
    have hD := h.new haD
    have hfD : VFr lo hi w wa.drew := VFr.of_none haD
    have hBD : Blk wa.drew w.heap.size 66 #[.int .i64 nd.kind, .slice Af nf cf, .slice Ar nr cr] := hB
    have e0 : wa.drew.cell? ⟨w.heap.size, 0, none⟩ = some (.int .i64 nd.kind) := hBD.cell 0
    have e1 : wa.drew.cell? ⟨w.heap.size, 1, none⟩ = some (.slice Af nf cf) := hBD.cell 1
    have e2 : wa.drew.cell? ⟨w.heap.size, 2, none⟩ = some (.slice Ar nr cr) := hBD.cell 2
    have e3 := hD.rbc
    have e4 := hD.gbc
    have hfD2 := hf.new haD
    have hrD2 := hr.new haD
    clear hf hr c0 c1 c2' d0 d1 p0
    go_upto_if 21 with fail
    clear a0
    go_cut [] (fun wx => RowMid plan (.slice (some ⟨g, o, none⟩) n' c) lo hi M RB RW PB GB RO n' k w rows wx)
    case first =>
      by_cases hk0 : nd.kind = 0
      · have hb0 : (nd.kind == 0) = true := by simpa using hk0
        have Hrow : Hid (valAt plan k = nd.row) := valAt_fixed Hx.out hk0
        have hrl : nd.row.length ≤ 1000000000 := by
          have := rowValid_len ((fits_kind (planValid_node hv Hx.out).1).2.2.2 hk0)
          omega
        clear hk0 IH
        go_wp2_with fail
        go_region_law (go_simp; go_at_call 60; refine (copyInts_any _ nd.row _ (by exact hrD2) hrl).mono ?_; rintro e w4 ⟨u, rfl, ho, hg4⟩; have f0 := hg4.cell (by exact e0) (by simp); have f2 := hg4.cell (by exact e2) (by simp); have f3 := hg4.cell (by exact e3) (by simp); have hst4 := hD.new hg4; obtain ⟨⟨u9, f5⟩, f6⟩ := hst4.slot hk; obtain ⟨A4, n4, c4, rfl⟩ := ho.ri.val; have hmid := hst4.mid (hfD.trans (VFr.of_none hg4)) (fun _ hi => hi) hk (by rw [Hrow.out]; exact ho.ri))
        all_goals
          go_wp2_with fail
          go_meet
          exact hmid
      · have hb0 : (nd.kind == 0) = false := by simpa using hk0
        have Hrun : Hid (kindRun nd.kind (nd.frm.map fun j => valAt plan j.toNat) = some (valAt plan k)) := valAt_run hv Hx.out hk0
        have Hin : Hid (∀ y ∈ nd.frm, 0 ≤ y ∧ y < (k : Int)) := (fits_kind (planValid_node hv Hx.out).1).2.2.1
        have hf2 : nd.frm.length ≤ 2 := (planValid_node hv Hx.out).2.1
        have HIH := Lib.hid IH
        clear hk0 IH
        go_wp2_with fail
        obtain ⟨hn1, hn2, hn3⟩ : w.heap.size ≠ RW ∧ RB ≠ RW ∧ GB ≠ RW := hD.nes (by omega) hBD
        go_region_held3 (fun w' => w'.cell? ⟨w.heap.size, 0, none⟩ = some (.int .i64 nd.kind) ∧ w'.cell? ⟨w.heap.size, 1, none⟩ = some (.slice Af nf cf) ∧ w'.cell? ⟨RB, 0, none⟩ = some (.slice (some ⟨RW, 0, none⟩) n' n') ∧ w'.cell? ⟨GB, 0, none⟩ = some (.func (.func 62) #[] #[.pointer (some ⟨RO, 0, none⟩)])) (go_keep) (first
          | (go_at_call 62; refine (gather_any HIH.out (Nat.le_of_lt hk) hn (by exact hD) (by exact hfD2) hf2 Hin.out).mono ?_; rintro e w4 ⟨v4, rws4, rfl, hv4, hst4, hfr4, hm4⟩; have hB4 := hfr4.o _ _ _ (by decide) (by decide) hBD; have f0 : w4.cell? ⟨w.heap.size, 0, none⟩ = some (.int .i64 nd.kind) := hB4.cell 0; have f1 : w4.cell? ⟨w.heap.size, 1, none⟩ = some (.slice Af nf cf) := hB4.cell 1; have f3 := hst4.rbc; have f4 := hst4.gbc; obtain ⟨A4, n4, c4, rfl⟩ := hv4.val)
          | (go_at_call 61; refine (implKindRun_any nd.kind _ _ w4 (by exact hv4)).mono ?_; rw [Hrun.out]; rintro e w5 ⟨u, rfl, ho, hg5⟩; have q0 := hg5.cell (by exact f0) (by simp); have q1 := hg5.cell (by exact f1) (by simp); have q4 := hg5.cell (by exact f4) (by simp); have q3 := hg5.cell (by exact f3) (by simp); have hst5 := hst4.new hg5; obtain ⟨⟨u9, q5⟩, q6⟩ := hst5.slot hk; obtain ⟨A5, n5, c5, rfl⟩ := ho.ri.val; have hmid := hst5.mid (hfD.trans (hfr4.trans (VFr.of_none hg5))) hm4 hk (by exact ho.ri); have gs : w5.grownBy (w5.setCell ⟨RW, k, none⟩ (.slice A5 n5 c5)) (some RW) := gb_set (p := ⟨RW, k, none⟩) (gb_refl w5 _) (.inr rfl) _; have s0 := gs.cell (by exact q0) (fun e => hn1 (by injection e)); have s1 := gs.cell (by exact q1) (fun e => hn1 (by injection e)); have s3 := gs.cell (by exact q3) (fun e => hn2 (by injection e)); have s4 := gs.cell (by exact q4) (fun e => hn3 (by injection e))))
        all_goals
          go_wp2_with fail
          go_meet
          exact hmid
    case rest =>
      obtain ⟨rows', hst, hfr, hm, hk2⟩ := hcut
      have hk10 : k < 10 := by omega
      obtain ⟨⟨u9, q5⟩, q6⟩ := hst.mslot hk10
      obtain ⟨hst2, hfr2⟩ := hst.mark hk10 hk2
      have hfr3 := hfr.trans hfr2
      obtain ⟨B, m, e, q1, hrl⟩ := hst2.rowc hk hk2
      have q3 := hst2.rbc
      have Hm := Lib.hid hm
      have Hk2 := Lib.hid hk2
      clear hm hk2 hst hfr hfr2
      go_upto_region 8 with fail
      generalize wc.setCell ⟨M, k, none⟩ (.bool true) = wz at hst2 hfr3 q1 hrl q3 ⊢
      go_wp2_with fail
      go_ret
      exact ⟨_, rows', rfl, hrl, hst2, hfr3, Hm.out, Hk2.out⟩
end Go.Proofs.YthampfkicnakgaaGreatDoor
namespace Go.Proofs.YthampfkicnakgaaGreatDoor
open Go.RowKit

theorem rowOf_all {plan : List Node} {V : Value} {lo hi M RB RW PB GB RO n : Nat} (hn : n ≤ 10) (hv : planValid plan = true) : ∀ k, k < n → RowOfAt plan V lo hi M RB RW PB GB RO n k := by
  intro k
  induction k using Nat.strongRecOn with
  | ind k ih => exact fun hk => rowOf_step (fun j hj => ih j hj (by omega)) hk hn hv
/-- The closures' store as it is laid: nothing is marked. -/
theorem VSt.start {w : World} {plan : List Node} {V : Value} {lo PB RW n : Nat} (hB : Blk w PB 31 #[V]) (hr : RN w V plan) (ho : OwnL w lo (.slice (some ⟨RW, 0, none⟩) n n) (List.replicate n [])) (hn : plan.length = n) (h1 : lo ≤ RW) (h2 : RW < w.heap.size) :
    ∃ W : World, W = ((((w.alloc (.cells #[.slice (some ⟨RW, 0, none⟩) n n] 59)).alloc (.cells #[.bool false, .bool false, .bool false, .bool false, .bool false, .bool false, .bool false, .bool false, .bool false, .bool false] 101)).alloc (.cells #[.func (.func 62) #[] #[.pointer (some ⟨w.heap.size + 1 + 1 + 1, 0, none⟩)]] 102)).alloc
      (.cells #[.func (.func 59) #[] #[.pointer (some ⟨w.heap.size + 1, 0, none⟩), .pointer (some ⟨w.heap.size, 0, none⟩), .pointer (some ⟨PB, 0, none⟩), .pointer (some ⟨w.heap.size + 1 + 1, 0, none⟩)]] 105))
      ∧ VSt plan V lo (w.heap.size + 1 + 1 + 1 + 1) (w.heap.size + 1) w.heap.size RW PB (w.heap.size + 1 + 1) (w.heap.size + 1 + 1 + 1) n W (List.replicate n []) ∧ w.grownBy W none := by
  generalize ho1 : Obj.cells #[.slice (some ⟨RW, 0, none⟩) n n] 59 = o1
  generalize ho2 : Obj.cells #[.bool false, .bool false, .bool false, .bool false, .bool false, .bool false, .bool false, .bool false, .bool false, .bool false] 101 = o2
  generalize ho3 : Obj.cells #[.func (.func 62) #[] #[.pointer (some ⟨w.heap.size + 1 + 1 + 1, 0, none⟩)]] 102 = o3
  generalize ho4 : Obj.cells #[.func (.func 59) #[] #[.pointer (some ⟨w.heap.size + 1, 0, none⟩), .pointer (some ⟨w.heap.size, 0, none⟩), .pointer (some ⟨PB, 0, none⟩), .pointer (some ⟨w.heap.size + 1 + 1, 0, none⟩)]] 105 = o4
  have hg : w.grownBy ((((w.alloc o1).alloc o2).alloc o3).alloc o4) none := gb_alloc (gb_alloc (gb_alloc (gb_alloc (gb_refl w none) _) _) _) _
  have b1 : Blk (w.alloc o1) w.heap.size 59 _ := ho1 ▸ Blk.new w _ _
  have b2 := Blk.new (w.alloc o1) 101 #[.bool false, .bool false, .bool false, .bool false, .bool false, .bool false, .bool false, .bool false, .bool false, .bool false]
  rw [World.size_alloc, ho2] at b2
  have b3 := Blk.new ((w.alloc o1).alloc o2) 102 #[.func (.func 62) #[] #[.pointer (some ⟨w.heap.size + 1 + 1 + 1, 0, none⟩)]]
  rw [World.size_alloc, World.size_alloc, ho3] at b3
  have b4 := Blk.new (((w.alloc o1).alloc o2).alloc o3) 105 #[.func (.func 59) #[] #[.pointer (some ⟨w.heap.size + 1, 0, none⟩), .pointer (some ⟨w.heap.size, 0, none⟩), .pointer (some ⟨PB, 0, none⟩), .pointer (some ⟨w.heap.size + 1 + 1, 0, none⟩)]]
  rw [World.size_alloc, World.size_alloc, World.size_alloc, ho4] at b4
  refine ⟨_, rfl, ⟨⟨_, (b2.alloc _).alloc _, rfl, fun i hi => ⟨false, ?_, fun e => by cases e⟩⟩, ((b1.alloc _).alloc _).alloc _, ho.new hg, by simp, hn, hB.grown hg (by simp), b3.alloc _, b4, hr.new hg, ⟨by omega, by omega⟩, ⟨h1, by omega⟩, ?_⟩, hg⟩
  · have : i = 0 ∨ i = 1 ∨ i = 2 ∨ i = 3 ∨ i = 4 ∨ i = 5 ∨ i = 6 ∨ i = 7 ∨ i = 8 ∨ i = 9 := by omega
    rcases this with rfl | rfl | rfl | rfl | rfl | rfl | rfl | rfl | rfl | rfl <;> rfl
  · rw [World.size_alloc, World.size_alloc, World.size_alloc, World.size_alloc]
    exact Nat.le_refl _
/-- What ValuesOf answers: the rows, and whether the plan is valid. -/
def ValuesPost (w : World) (plan : List Node) (e : Ending) (w' : World) : Prop :=
  ∃ v, e = .returned (.tuple #[v, .bool (planValid plan)]) ∧ RL w' v (if planValid plan = true then values plan else []) ∧ w.grownBy w' none
set_option maxHeartbeats 1600000 in
set_option maxRecDepth 20000 in
theorem valuesOf_any (v : Value) (plan : List Node) (w : World) (h : RN w v plan) : Calls Tryz.prog 34 #[v] w (ValuesPost w plan) := by
  obtain ⟨A, n, c, rfl, hnc, hn, hn9⟩ := h.form'
  have Hn := Lib.hid hn
  clear hn hn9
  cases hv : planValid plan with
  | false =>
    have Hv := Lib.hid hv
    clear hv
    go_enter Tryz.func34, Tryz.ntmps34
    go_wp2_with fail
    refine (implPlanValid_b _ plan _ (h.alloc _) Hv.out).mono ?_
    rintro e w1 ⟨rfl, hg1⟩
    go_wp2_with fail
    go_ret2
    have hfin : ValuesPost w plan (.returned (.tuple #[.slice none 0 0, .bool false])) w1 := by
      refine ⟨_, by rw [Hv.out], ?_, gb_trans (World.grownBy_alloc w _ none) hg1⟩
      rw [Hv.out]
      exact RL.nil _
    exact hfin
  | true =>
    have hn10 : n ≤ 10 := by have := planValid_len hv; have := Hn.out; omega
    have Hv := Lib.hid hv
    clear hv
    obtain ⟨i0, hif, hz0, hz1, hz2⟩ := info_parts info24
    have hga := World.grownBy_alloc w (.cells #[.slice A n c] 31) none
    have hB := Blk.new w 31 #[.slice A n c]
    go_enter Tryz.func34, Tryz.ntmps34
    go_upto_region 1 with fail
    generalize w.alloc (.cells #[.slice A n c] 31) = wa at hB hga ⊢
    have a0 : wa.cell? ⟨w.heap.size, 0, none⟩ = some (.slice A n c) := hB.cell 0
    go_wp2_with fail
    refine (implPlanValid_b _ plan _ (h.new hga) Hv.out).mono ?_
    rintro e w1 ⟨rfl, hg1⟩
    have hB1 := hB.grown hg1 (by simp)
    have b0 : w1.cell? ⟨w.heap.size, 0, none⟩ = some (.slice A n c) := hB1.cell 0
    go_upto_region 4 with (at_make; go_must (refine wpList_make_full _ rfl _ _ 59 rfl w1.heap.size 24 i0 _ 1 Tryz.underlying59 hif hz0 hz1 _ _ _ _ n rfl rfl rfl rfl (by rw [hz2]; omega) (by unfold maxLen; omega) (Nat.le_refl _) ?_))
    intro w2 hown hg2
    have ho : OwnL w2 w1.heap.size (.slice (some ⟨w1.heap.size, 0, none⟩) n n) (List.replicate n []) := by
      refine OwnL.made ?_
      have e : n * 1 = n := Nat.mul_one n
      first | exact hown | (rw [e] at hown; exact hown) | (simp at hown; exact hown)
    have hlt2 := (hown.lt w1.heap.size rfl).2
    clear hown
    go_upto_region 8 with fail
    have hg12 := gb_trans hga (gb_trans hg1 hg2)
    obtain ⟨W, hW, hst, hgW⟩ := VSt.start (hB1.grown hg2 (by simp)) (h.new hg12) ho Hn.out.symm (Nat.le_refl _) hlt2
    rw [← hW]
    have hgW0 := gb_trans hg12 hgW
    have hlo : w.heap.size ≤ w1.heap.size := (gb_trans hga hg1).size
    clear hW hgW ho hg12 hg2 hg1 hga hB1 hB a0 b0
    have p0 : W.cell? ⟨w.heap.size, 0, none⟩ = some (.slice A n c) := hst.pb.cell 0
    generalize w2.heap.size = z2 at hst ⊢
    generalize w1.heap.size = z1 at hst hlo ⊢
    go_wp2_with fail
    clear p0
    go_loopg [8, 19] (n + 1) (fun mm x8 i wr => ∃ (q : Nat) (rws : List (List Int)), q ≤ n ∧ mm = n + 1 - q ∧ i = .int .i64 q ∧ VSt plan (.slice A n c) z1 (z2 + 1 + 1 + 1 + 1) (z2 + 1) z2 z1 w.heap.size (z2 + 1 + 1) (z2 + 1 + 1 + 1) n wr rws ∧ w.grownBy wr none ∧ Hid (∀ i : Nat, i < q → rws[i]? = some (valAt plan i)))
    case atStart => exact ⟨0, _, Nat.zero_le _, rfl, rfl, hst, hgW0, fun i hi => absurd hi (Nat.not_lt_zero _)⟩
    case round =>
      clear hst hgW0
      obtain ⟨q, rws, hq, rfl, rfl, hst, hg, hdone⟩ := hrel
      by_cases hlt : q < n
      · have r0 : wr.cell? ⟨z2 + 1 + 1 + 1, 0, none⟩ = some _ := hst.ro.cell 0
        go_wp2_with fail
        refine (rowOf_all hn10 Hv.out q hlt wr rws hst).mono ?_
        rintro e w4 ⟨u, rws', rfl, hu, hst4, hfr4, hm4, hk4⟩
        have hg4 := hfr4.z.gb hg hlo
        have hd4 : Hid (∀ i : Nat, i < q + 1 → rws'[i]? = some (valAt plan i)) := fun i hi => by
          by_cases hiq : i = q
          · subst hiq; exact hk4
          · exact hm4 i (hdone.out i (by omega))
        obtain ⟨A', n', c', rfl⟩ := hu.val
        clear hm4 hk4 hdone hst hfr4 hg r0
        go_wp2_with fail
        go_roundg (n + 1 - (q + 1))
        case measure => omega
        case rel => exact ⟨q + 1, rws', by omega, rfl, by go_num, hst4, hg4, hd4⟩
      · obtain rfl : q = n := by omega
        have hrows : rws = values plan := by
          apply List.ext_getElem?
          intro i
          by_cases hi : i < q
          · rw [hdone.out i hi, valAt_get (by rw [← Hn.out]; exact hi)]
          · rw [List.getElem?_eq_none (by rw [hst.rl]; omega), List.getElem?_eq_none (by rw [values_len, ← Hn.out]; omega)]
        have hR := hst.rw.rl
        rw [hrows] at hR
        have q0 := hst.rbc
        have hfin : Hid (ValuesPost w plan (.returned (.tuple #[.slice (some ⟨z1, 0, none⟩) q q, .bool true])) wr) := by
          refine ⟨_, by rw [Hv.out], ?_, hg⟩
          rw [Hv.out]
          exact hR
        clear hrows hdone hst
        go_wp2_with fail
        go_ret2
        exact hfin
end Go.Proofs.YthampfkicnakgaaGreatDoor
namespace Go.Proofs.YthampfkicnakgaaGreatDoor
open Go.RowKit

/-- A builder in block B, the call's first, that holds the bytes l; what lay below stands as in w1. -/
def BW (w1 w : World) (B : Nat) (l : List UInt8) : Prop := Lib.IsBuilderF 64 5 B B (Lib.byteCells l) w ∧ Below B w1 w ∧ B ≤ w.heap.size
theorem BW.new {w1 w w' : World} {B : Nat} {l : List UInt8} (h : BW w1 w B l) (hg : w.grownBy w' none) : BW w1 w' B l := by
  obtain ⟨h1, h2, h3⟩ := h
  have at_ : ∀ p, Lib.BuilderAtF 64 5 B B p (Lib.byteCells l) w → Lib.BuilderAtF 64 5 B B p (Lib.byteCells l) w' := by
    rintro p ⟨k1, v, k2, k3, k4⟩
    exact ⟨k1, v, Blk.grown (t := 64) k2 hg (by simp), k3.kept hg (by rcases Classical.em (v.ownBlock = none) with e | e; exact .inl e; exact .inr e), k4⟩
  exact ⟨h1.elim (fun k => .inl (at_ _ k)) (fun k => .inr (at_ _ k)), h2.trans (gb_below hg |>.mono h3), Nat.le_trans h3 hg.size⟩
def WroteOut (w1 w : World) (B : Nat) (l : List UInt8) (r : Value) (e : Ending) (w' : World) : Prop := e = .returned r ∧ BW w1 w' B l ∧ Lib.OthersKept 5 (some B) w w'
theorem writeString_any {w1 w : World} {B : Nat} {l : List UInt8} (h : BW w1 w B l) (s : List UInt8) (hl : l.length + s.length ≤ 1000000) :
    Calls Tryz.prog 35 #[.pointer (some ⟨B, 0, none⟩), .string (bstr s)] w (WroteOut w1 w B (l ++ s) (.tuple #[.int .i64 (bstr s).size, .nilIface])) := by
  obtain ⟨h1, h2, h3⟩ := h
  refine (Tryz.Builder_WriteString B B _ (bstr s) w h1 (by rw [bstr_size]; unfold Lib.byteCells; rw [List.length_map]; omega) h3).mono ?_
  rintro e w' ⟨rfl, k1, k2, k3⟩
  have hc : Lib.byteCells l ++ Lib.strCells (bstr s) = Lib.byteCells (l ++ s) := by
    show Lib.byteCells l ++ Lib.byteCells s = _
    unfold Lib.byteCells
    rw [List.map_append]
  rw [hc] at k1
  exact ⟨rfl, ⟨.inr k1, h2.trans k2, Nat.le_trans h3 k2.size⟩, k3⟩
theorem writeByte_any {w1 w : World} {B : Nat} {l : List UInt8} (h : BW w1 w B l) (hl : l.length ≤ 1000000) :
    Calls Tryz.prog 38 #[.pointer (some ⟨B, 0, none⟩), .int .u8 10] w (WroteOut w1 w B (l ++ [10]) .nilIface) := by
  obtain ⟨h1, h2, h3⟩ := h
  refine (Tryz.Builder_WriteByte B B _ 10 w h1 (by unfold Lib.byteCells; rw [List.length_map]; omega) h3).mono ?_
  rintro e w' ⟨rfl, k1, k2, k3⟩
  have hc : Lib.byteCells l ++ [Value.int .u8 10] = Lib.byteCells (l ++ [10]) := by
    unfold Lib.byteCells
    rw [List.map_append]
    rfl
  rw [hc] at k1
  exact ⟨rfl, ⟨.inr k1, h2.trans k2, Nat.le_trans h3 k2.size⟩, k3⟩
theorem buildString_any {w1 w : World} {B : Nat} {l : List UInt8} (h : BW w1 w B l) :
    Calls Tryz.prog 39 #[.pointer (some ⟨B, 0, none⟩)] w (WroteOut w1 w B l (.string (bstr l))) := by
  obtain ⟨h1, h2, h3⟩ := h
  refine (Tryz.Builder_String_k B B l w h1 h3).mono ?_
  rintro e w' ⟨rfl, k1, k2, k3⟩
  exact ⟨rfl, ⟨k1, h2.trans k2, Nat.le_trans h3 k2.size⟩, k3⟩
theorem BW.lt {w1 w : World} {B : Nat} {l : List UInt8} (h : BW w1 w B l) : B < w.heap.size := h.1.elim (fun k => k.lt) (fun k => k.lt)
theorem BW.start (w : World) : BW w (w.alloc (.cells #[.pointer none, .slice none 0 0] 64)) w.heap.size [] :=
  ⟨Lib.IsBuilderF.of (Lib.fresh_isBuilder _ _ w), gb_below (World.grownBy_alloc w _ none), by rw [World.size_alloc]; omega⟩
theorem Blk.oth {w w' : World} {b x : Nat} {cs : Array Value} (h : Lib.OthersKept 5 (some b) w w') (hx : Blk w x 66 cs) (hne : x ≠ b) : Blk w' x 66 cs :=
  h x _ hx (by simpa using hne) (fun c fz e => by injection e with _ e; exact absurd e (by decide))
set_option maxHeartbeats 2400000 in
set_option maxRecDepth 20000 in
theorem implPlanText_any (v : Value) (plan : List Node) (w : World) (h : RN w v plan) (hp : PTab w) (hkw : KWords w) : Calls Tryz.prog 14 #[v] w (StrOut w (planText plan)) := by
  obtain ⟨A, n, c, rfl, hnc, hn, hn9⟩ := h.form'
  have Hn := Lib.hid hn
  clear hn hn9
  cases hv : planValid plan with
  | false =>
    have HT : Hid (bstr (planText plan) = ⟨#[]⟩) := by show _ = _; unfold planText; rw [hv]; rfl
    have Hv := Lib.hid hv
    clear hv
    go_enter Tryz.func14, Tryz.ntmps14
    go_wp2_with fail
    refine (valuesOf_any _ plan w h).mono ?_
    rw [show ValuesPost w plan = fun e w' => ∃ v, e = .returned (.tuple #[v, .bool (planValid plan)]) ∧ RL w' v (if planValid plan = true then values plan else []) ∧ w.grownBy w' none from rfl, Hv.out]
    rintro e w1 ⟨rv, rfl, hrv, hg1⟩
    obtain ⟨A2, n2, c2, rfl⟩ := hrv.val
    go_wp2_with fail
    go_ret
    exact ⟨by rw [HT.out] <;> rfl, hg1⟩
  | true =>
    have hn10 : n ≤ 10 := by have := planValid_len hv; have := Hn.out; omega
    have HT : Hid (planText plan = linesTo plan plan.length) := by show _ = _; unfold planText; rw [if_pos hv]
    have Hv := Lib.hid hv
    clear hv
    go_enter Tryz.func14, Tryz.ntmps14
    go_wp2_with fail
    refine (valuesOf_any _ plan w h).mono ?_
    rw [show ValuesPost w plan = fun e w' => ∃ v, e = .returned (.tuple #[v, .bool (planValid plan)]) ∧ RL w' v (if planValid plan = true then values plan else []) ∧ w.grownBy w' none from rfl, Hv.out, if_pos rfl]
    rintro e w1 ⟨rv, rfl, hrv, hg1⟩
    obtain ⟨A2, n2, c2, rfl, hnc2, hn2, -⟩ := hrv.form'
    have hn2' : n2 = n := by rw [hn2, values_len]; exact Hn.out.symm
    subst hn2'
    clear hn2
    have hb0 := BW.start w1
    go_upto_region 5 with fail
    generalize w1.alloc (.cells #[.pointer none, .slice none 0 0] 64) = w2 at hb0 ⊢
    have hsz : Hid (w1.heap.size = w1.heap.size) := rfl
    obtain ⟨B, hB⟩ : ∃ B, B = w1.heap.size := ⟨_, rfl⟩
    rw [← hB] at hb0 ⊢
    have HB := Lib.hid hB
    clear hB hsz
    go_wp2_with fail
    go_loopg [6, 7, 17] (n2 + 1) (fun mm x6 x7 i wr => ∃ k : Nat, k ≤ n2 ∧ mm = n2 + 1 - k ∧ i = .int .i64 k ∧ BW w1 wr B (linesTo plan k))
    case atStart => exact ⟨0, Nat.zero_le _, rfl, rfl, hb0⟩
    case round =>
      clear hb0
      obtain ⟨k, hk, rfl, rfl, hbw⟩ := hrel
      have hg : w.grownBy wr none := gb_trans hg1 (gb_of_below (HB.out ▸ hbw.2.1) none)
      have hgr : w1.grownBy wr none := gb_of_below (HB.out ▸ hbw.2.1) none
      by_cases hlt : k < n2
      · obtain ⟨g, o, nd, f, r, rfl, hx, c0, c1, c2', hf, hr⟩ := (h.new hg).at_ hlt
        have hten := node_ten Hv.out hx
        have hvv := (valAt_valid Hv.out (i := k) (by rw [← Hn.out]; exact hlt)).1
        have Hvv := Lib.hid hvv
        have hll := linesTo_len Hv.out k (by rw [← Hn.out]; omega)
        have hnl := nodeText_len hten
        have hrtl := rowText_len hvv
        have hdl := dec_len (n := k) (by omega)
        have Hs : Hid (linesTo plan (k + 1) = linesTo plan k ++ lineText nd k (valAt plan k)) := linesTo_succ hx
        obtain ⟨Af, nf, cf, rfl⟩ := hf.val
        obtain ⟨Ar, nr, cr, rfl⟩ := hr.val
        have Hx := Lib.hid hx
        generalize hQ : linesTo plan k = Q at hll Hs hbw ⊢
        generalize hT : nodeText nd = T at hnl
        have HTt := Lib.hid hT
        generalize hD : Lib.decDigits k = D at hdl
        have HD := Lib.hid hD
        have HI : Hid (Lib.itoa (k : Int) = D) := by show _ = _; rw [itoa_nat, hD]
        obtain ⟨X1, hX1⟩ : ∃ X, X = D ++ [32] := ⟨_, rfl⟩
        obtain ⟨X2, hX2⟩ : ∃ X, X = X1 ++ T := ⟨_, rfl⟩
        have hap1 : bstr D ++ (⟨#[32]⟩ : ByteArray) = bstr X1 := by rw [hX1]; exact bstr_append _ [32]
        have hap2 : bstr X1 ++ bstr T = bstr X2 := by rw [hX2]; exact bstr_append _ _
        have hl1 : X1.length = D.length + 1 := by rw [hX1, List.length_append]; rfl
        have hl2 : X2.length = X1.length + T.length := by rw [hX2, List.length_append]
        have hs1 : ¬ (9223372036854775807 < (bstr D).size + 1) := by rw [bstr_size]; omega
        have hs2 : ¬ (9223372036854775807 < (bstr X1).size + (bstr T).size) := no_long (by omega)
        have HX : Hid (X2 = D ++ ([32] ++ T)) := by show _ = _; rw [hX2, hX1]; simp
        have hX2l : X2.length ≤ 400 := by omega
        have hQl : Q.length ≤ 6000 := by omega
        clear hX1 hX2 hl1 hl2 hx hten hvv hT hD hQ
        go_upto_region 8 with fail
        have hga := World.grownBy_alloc wr (.cells #[.int .i64 nd.kind, .slice Af nf cf, .slice Ar nr cr] 66) none
        have hBx := Blk.new wr 66 #[.int .i64 nd.kind, .slice Af nf cf, .slice Ar nr cr]
        generalize wr.alloc (.cells #[.int .i64 nd.kind, .slice Af nf cf, .slice Ar nr cr] 66) = wa at hga hBx ⊢
        have hne : wr.heap.size ≠ B := by have := hbw.lt; omega
        have haD := gb_drew hga
        have hBD : Blk wa.drew wr.heap.size 66 #[.int .i64 nd.kind, .slice Af nf cf, .slice Ar nr cr] := hBx
        have e0 : wa.drew.cell? ⟨wr.heap.size, 0, none⟩ = some (.int .i64 nd.kind) := hBD.cell 0
        have e1 : wa.drew.cell? ⟨wr.heap.size, 1, none⟩ = some (.slice Af nf cf) := hBD.cell 1
        have e2 : wa.drew.cell? ⟨wr.heap.size, 2, none⟩ = some (.slice Ar nr cr) := hBD.cell 2
        have hfD := hf.new haD
        have hrD := hr.new haD
        have hbD := hbw.new haD
        have hP := hp.new (gb_trans hg haD)
        have hK := hkw.new (gb_trans hg haD)
        clear hbw c0 c1 c2' hf hr hga hBx
        generalize wr.heap.size = xb at hne hBD e0 e1 e2 ⊢
        go_region_held3 (fun w' => w'.cell? ⟨xb, 0, none⟩ = some (.int .i64 nd.kind) ∧ w'.cell? ⟨xb, 1, none⟩ = some (.slice Af nf cf) ∧ w'.cell? ⟨xb, 2, none⟩ = some (.slice Ar nr cr)) (go_keep)
          (first
            | (go_at_call 36; refine (itoa_any k _ hP (by omega) (by omega)).mono ?_; rintro e w3 ⟨rfl, hg3⟩; rw [HI.out]; have hB3 := hBD.grown hg3 (by simp); have f0 := hg3.cell (by exact e0) (by simp); have f1 := hg3.cell (by exact e1) (by simp); have f2 := hg3.cell (by exact e2) (by simp))
            | (go_at_call 37; refine (implNodeText_any _ nd w3 (by exact ⟨_, _, rfl, hfD.new hg3, hrD.new hg3⟩) (hP.new hg3) (hK.new hg3)).mono ?_; rintro e w4 ⟨rfl, hg4⟩; rw [HTt.out]; have hB4 := hB3.grown hg4 (by simp); have hb4 := (hbD.new hg3).new hg4; have q0 := hg4.cell (by exact f0) (by simp); have q1 := hg4.cell (by exact f1) (by simp); have q2 := hg4.cell (by exact f2) (by simp))
            | (go_at_call 35; refine (writeString_any (by exact hb4) X2 (by omega)).mono ?_; rintro e w5 ⟨rfl, hb5, hok⟩; have hB5 := hB4.oth hok hne; have y0 : w5.cell? ⟨xb, 0, none⟩ = some (.int .i64 nd.kind) := hB5.cell 0; have y1 : w5.cell? ⟨xb, 1, none⟩ = some (.slice Af nf cf) := hB5.cell 1; have y2 : w5.cell? ⟨xb, 2, none⟩ = some (.slice Ar nr cr) := hB5.cell 2))
        have hgw5 : w1.grownBy w5 none := gb_of_below (HB.out ▸ hb5.2.1) none
        obtain ⟨g3, o3, l, B3, m3, e3, rfl, hl, hcl, hrl, -, -, -⟩ := (hrv.new hgw5).at_ hlt
        have hval : l = valAt plan k := by
          rw [valAt_get (by rw [← Hn.out]; exact hlt)] at hl
          injection hl with hl
          exact hl.symm
        subst hval
        have hP5 := hp.new (gb_trans hg1 hgw5)
        clear hl e0 e1 e2 f0 f1 f2 q0 q1 q2 hB3 hB4 hb4 hfD hrD hbD hP hK hBD hB5 hap1 hap2 hs1 hs2 hok hg3 hg4 haD hg hgr
        by_cases hk0 : nd.kind = 0
        · have hb : (nd.kind != 0) = false := by simpa using hk0
          have HL : Hid (Q ++ X2 ++ [10] = linesTo plan (k + 1)) := by
            show _ = _
            rw [Hs.out, HX.out]
            unfold lineText
            rw [if_pos hk0, HTt.out, HD.out]
            simp
          clear hk0
          go_wp2_with fail
          refine (writeByte_any hb5 (by rw [List.length_append]; omega)).mono ?_
          rintro e w6 ⟨rfl, hb6, -⟩
          rw [HL.out] at hb6
          go_wp2_with fail
          go_roundg (n2 + 1 - (k + 1))
          case measure => omega
          case rel => exact ⟨k + 1, by omega, rfl, by go_num, hb6⟩
        · have hb : (nd.kind != 0) = true := by simpa using hk0
          have HR2 : Hid (rowTextOf (valAt plan k) = rowText (valAt plan k)) := by show _ = _; unfold rowTextOf; rw [if_pos Hvv.out]
          generalize hR : rowText (valAt plan k) = R at hrtl HR2
          obtain ⟨X3, hX3⟩ : ∃ X, X = [32, 61, 32] ++ R := ⟨_, rfl⟩
          have hap3 : (⟨#[32, 61, 32]⟩ : ByteArray) ++ bstr R = bstr X3 := by rw [hX3]; exact bstr_append [32, 61, 32] _
          have hl3 : X3.length = 3 + R.length := by rw [hX3, List.length_append]; rfl
          have hs3 : ¬ (9223372036854775807 < 3 + (bstr R).size) := by rw [bstr_size]; omega
          have HL : Hid (Q ++ X2 ++ X3 ++ [10] = linesTo plan (k + 1)) := by
            show _ = _
            rw [Hs.out, HX.out, hX3]
            unfold lineText
            rw [if_neg hk0, HTt.out, HD.out, hR]
            simp
          clear hk0 hR hX3
          go_wp2_with fail
          refine (implRowText_any _ _ w5 hrl hP5).mono ?_
          rintro e w6 ⟨rfl, hg6⟩
          rw [HR2.out]
          have hb6 := hb5.new hg6
          go_wp2_with fail
          refine (writeString_any hb6 X3 (by rw [List.length_append]; omega)).mono ?_
          rintro e w7 ⟨rfl, hb7, -⟩
          go_wp2_with fail
          refine (writeByte_any hb7 (by rw [List.length_append, List.length_append]; omega)).mono ?_
          rintro e w8 ⟨rfl, hb8, -⟩
          rw [HL.out] at hb8
          go_wp2_with fail
          go_roundg (n2 + 1 - (k + 1))
          case measure => omega
          case rel => exact ⟨k + 1, by omega, rfl, by go_num, hb8⟩
      · obtain rfl : k = n2 := by omega
        have hT2 : Hid (planText plan = linesTo plan k) := by show _ = _; rw [HT.out, ← Hn.out]
        generalize linesTo plan k = Q at hT2 hbw ⊢
        go_wp2_with fail
        refine (buildString_any hbw).mono ?_
        rintro e w3 ⟨rfl, hb3, -⟩
        go_wp2_with fail
        go_ret
        exact ⟨by rw [hT2.out] <;> rfl, gb_trans hg1 (gb_of_below (HB.out ▸ hb3.2.1) none)⟩
end Go.Proofs.YthampfkicnakgaaGreatDoor
