/- Words for memory: slices of rows of integers. Conditions: none. · Walks: the laws' copies of their arguments: sizes, copies, comparisons of rows of integers. · Walks: the laws' copies of plans: sizes, copies, comparisons. -/
import Derived.Test.YtihobnheficpjaaGreatDoorM05
import Derived.Test.YtihobnheficpjaaGreatDoorM02
namespace Go.Proofs.YtihobnheficpjaaGreatDoor
open Go.RowKit

/-- A slice of rows. -/
def RL (w : World) (v : Value) (ll : List (List Int)) : Prop := ∃ xs, TS w 25 1 v ll.length xs ∧ ∀ (i : Nat) (l : List Int), ll[i]? = some l → ∃ u, xs[i]? = some u ∧ RI w u l
/-- .. of the call's own; the rows are readable. -/
def OwnL (w : World) (base : Nat) (v : Value) (ll : List (List Int)) : Prop := ∃ xs, w.ownsRow base 25 1 v ll.length xs ∧ ∀ (i : Nat) (l : List Int), ll[i]? = some l → ∃ u, xs[i]? = some u ∧ RI w u l
section
variable {w w' : World} {v : Value} {ll : List (List Int)} {base : Nat} {row : Option Nat}
theorem RL.grown (h : RL w v ll) (hg : w.grownBy w' row) (hr : NotE w 3 row) (hr' : NotE w 25 row) : RL w' v ll := by
  obtain ⟨xs, h1, h2⟩ := h
  refine ⟨xs, h1.grown hg hr', fun i l hi => ?_⟩
  obtain ⟨u, k1, k2⟩ := h2 i l hi
  exact ⟨u, k1, k2.grown hg hr⟩
theorem RL.new (h : RL w v ll) (hg : w.grownBy w' none) : RL w' v ll := h.grown hg (NotE.none _ _) (NotE.none _ _)
theorem RL.alloc (h : RL w v ll) (o : Obj) : RL (w.alloc o) v ll := h.new (World.grownBy_alloc w o none)
theorem OwnL.grown (h : OwnL w base v ll) (hg : w.grownBy w' row) (hr : NotE w 3 row) (hr' : NotE w 25 row) : OwnL w' base v ll := by
  obtain ⟨xs, h1, h2⟩ := h
  refine ⟨xs, own_grown h1 hg hr', fun i l hi => ?_⟩
  obtain ⟨u, k1, k2⟩ := h2 i l hi
  exact ⟨u, k1, k2.grown hg hr⟩
theorem OwnL.new (h : OwnL w base v ll) (hg : w.grownBy w' none) : OwnL w' base v ll := h.grown hg (NotE.none _ _) (NotE.none _ _)
theorem OwnL.rl (h : OwnL w base v ll) : RL w v ll := let ⟨xs, h1, h2⟩ := h; ⟨xs, TS.of_own h1, h2⟩
theorem OwnL.lt (h : OwnL w base v ll) : ∀ g, v.ownBlock = some g → base ≤ g ∧ g < w.heap.size := let ⟨_, h1, _⟩ := h; World.ownsRow.lt h1
theorem OwnL.notE {E : TypeId} (h : OwnL w base v ll) (hE : E ≠ 25) : NotE w E v.ownBlock := let ⟨_, h1, _⟩ := h; NotE.own h1 hE
theorem OwnL.gb {a : World} (h : OwnL w base v ll) (hg : a.grownBy w row) (k : w.grownBy w' v.ownBlock) (hb : a.heap.size ≤ base) : a.grownBy w' row :=
  gb_new hg k (fun g e => .inl (Nat.le_trans hb (h.lt g e).1))
theorem OwnL.empty (w : World) {base : Nat} (hb : base ≤ w.heap.size) : OwnL (w.alloc (.cells #[] 25)) base (.slice (some ⟨w.heap.size, 0, none⟩) 0 0) [] := ⟨[], own_empty hb, fun i nd h => by simp at h⟩
theorem OwnL.nil (w : World) (base : Nat) : OwnL w base (.slice none 0 0) [] := ⟨[], World.ownsRow_nil _ _ _ _, fun i nd h => by simp at h⟩
theorem RL.nil (w : World) : RL w (.slice none 0 0) [] := ⟨[], TS.nil _ _ _, fun i nd h => by simp at h⟩
theorem RL.len {A : Option Addr} {n c : Nat} (h : RL w (.slice A n c) ll) : n = ll.length := by
  obtain ⟨xs, h, _⟩ := h
  obtain ⟨A', c', h1, _⟩ := h.form
  injection h1
theorem RL.form' (h : RL w v ll) : ∃ A n c, v = .slice A n c ∧ n ≤ c ∧ n = ll.length ∧ n ≤ 9223372036854775807 := by
  obtain ⟨xs, h, _⟩ := h
  have := h.le
  obtain ⟨A, c, h1, h2, _⟩ := h.form
  exact ⟨A, _, c, h1, h2, rfl, this⟩
theorem RL.val (h : RL w v ll) : ∃ A n c, v = .slice A n c := by
  obtain ⟨A, n, c, h1, _⟩ := h.form'
  exact ⟨A, n, c, h1⟩
theorem RL.at_ {A : Option Addr} {n c k : Nat} (h : RL w (.slice A n c) ll) (hk : k < n) :
    ∃ g o l B m e, A = some ⟨g, o, none⟩ ∧ ll[k]? = some l ∧ w.cell? ⟨g, o + k, none⟩ = some (.slice B m e) ∧ RI w (.slice B m e) l ∧ m = l.length ∧ m ≤ e ∧ m ≤ 9223372036854775807 := by
  have hn := h.len
  subst hn
  obtain ⟨xs, h1, h2⟩ := h
  obtain ⟨g, o, cur, rfl, _, hc⟩ := TS.at_ h1 (by omega)
  obtain ⟨u, k1, k2⟩ := h2 k _ (List.getElem?_eq_getElem hk)
  have hle := k2.le
  obtain ⟨B, m, e, rfl, h3, h4⟩ := k2.form'
  exact ⟨g, o, ll[k], B, m, e, rfl, List.getElem?_eq_getElem hk, hc _ _ k1, k2, h4, h3, by omega⟩
end
theorem info25 : (Tryz.prog.info? 25).map (fun i => (i.zero, i.size, i.bytes)) = some (some (.slice none 0 0), 1, 24) := by kernel_rfl
/-- 'append(out, row)' of one row. -/
theorem wp_push_list {ops : Array Oper} {rest : List Oper} {o : Oper} {a : Act} {Q : Exit → Act → World → Prop} {w : World} {l : List Int} {f : Value}
    (s x : Operand) (hgd : o.guard = none) (ho : o.op = .call { callee := .builtin .append, args := #[s, x], argTypes := #[24, 24] })
    {base : Nat} {v : Value} {ll : List (List Int)} (hown : OwnL w base v ll) (hf : RI w f l) (hn : ll.length ≤ 1000000000) (hbase : base ≤ w.heap.size)
    (hs : a.eval s = v) (hx : a.eval x = .slice (some ⟨w.heap.size, 0, none⟩) 1 1)
    (h : ∀ v' w', OwnL w' base v' (ll ++ [l]) → w.grownBy w' v.ownBlock → wpList Tryz.prog ops Q rest (a.put o.dst v') w') :
    wpList Tryz.prog ops Q (o :: rest) a (w.alloc (.cells #[f] 25)) := by
  obtain ⟨xs, ho1, ho2⟩ := hown
  refine wp_push s x 24 _ 1 24 Tryz.underlying24 info25 rfl (by decide) (by decide) hgd ho ho1 hn hbase rfl ?_ hs hx ?_
  · intro u hu
    simp only [List.mem_cons, List.not_mem_nil, or_false] at hu
    subst hu
    exact hf.oneCell
  intro v' w' h1 h2 _
  refine h v' w' ⟨_, by simpa using h1, ?_⟩ h2
  intro i l' hi
  have hne : NotE w 3 v.ownBlock := NotE.own ho1 (by decide)
  have hxl : xs.length = ll.length := by have := ho1.1; omega
  by_cases hl : i < ll.length
  · rw [List.getElem?_append_left hl] at hi
    obtain ⟨u, k1, k2⟩ := ho2 i l' hi
    exact ⟨u, by rw [List.getElem?_append_left (by omega)]; exact k1, k2.grown h2 hne⟩
  · rw [List.getElem?_append_right (by omega)] at hi
    have h0 : i - ll.length = 0 := by
      rcases Nat.eq_zero_or_pos (i - ll.length) with h | h
      · exact h
      · rw [List.getElem?_eq_none (by simp; omega)] at hi
        cases hi
    rw [h0] at hi
    obtain rfl : l = l' := by simpa using hi
    exact ⟨f, by rw [List.getElem?_append_right (by omega), show i - xs.length = 0 by omega]; rfl, hf.grown h2 hne⟩
theorem OwnL.form {n : Nat} {w : World} {base : Nat} {v : Value} {ll : List (List Int)} (h : OwnL w base v ll) (hn : ll.length = n) (h0 : 0 < n) :
    ∃ g cap cur, v = .slice (some ⟨g, 0, none⟩) n cap ∧ n ≤ cap ∧ base ≤ g ∧ Blk w g 25 cur ∧ ∀ j, j < n → ∃ u, w.cell? ⟨g, j, none⟩ = some u := by
  subst hn
  obtain ⟨xs, h1, _⟩ := h
  rcases h1.2 with ⟨rfl, hz⟩ | ⟨g, cap, cur, rfl, hb, hh, hn, _, hcs, ht⟩
  · omega
  · refine ⟨g, cap, cur, rfl, hn, hb, hh, fun j hj => ?_⟩
    rw [cell_of_row w g j cur _ _ hh]
    exact ⟨_, Array.getElem?_eq_getElem (by rw [hcs]; omega)⟩
/-- One row of an owned list is put in anew. -/
theorem OwnL.set_ {w : World} {base g n cap k : Nat} {ll : List (List Int)} {l : List Int} {f : Value} (h : OwnL w base (.slice (some ⟨g, 0, none⟩) n cap) ll) (hn : ll.length = n) (hk : k < n) (hf : RI w f l) :
    OwnL (w.setCell ⟨g, k, none⟩ f) base (.slice (some ⟨g, 0, none⟩) n cap) (ll.set k l) := by
  subst hn
  obtain ⟨xs, h1, h2⟩ := h
  have s1 := World.ownsRow.stored h1 k f
  have hne : NotE w 3 (some g) := NotE.own (v := .slice (some ⟨g, 0, none⟩) ll.length cap) h1 (by decide)
  have hxl : xs.length = ll.length := by have := h1.1; omega
  refine ⟨_, by rw [List.length_set]; exact s1.1, fun i x hi => ?_⟩
  by_cases hik : i = k
  · subst hik
    rw [List.getElem?_set_self hk] at hi
    obtain rfl : l = x := by simpa using hi
    exact ⟨f, by rw [List.getElem?_set_self (by omega)], hf.grown s1.2 hne⟩
  · rw [List.getElem?_set_ne (fun e => hik e.symm)] at hi
    obtain ⟨u, k1, k2⟩ := h2 i x hi
    exact ⟨u, by rw [List.getElem?_set_ne (fun e => hik e.symm)]; exact k1, k2.grown s1.2 hne⟩
/-- 'make([][]int, n)'. -/
theorem OwnL.made {w : World} {base n : Nat} {v : Value} (h : w.ownsRow base 25 1 v n (madeCells (Value.slice none 0 0).cells n).toList) : OwnL w base v (List.replicate n []) := by
  refine ⟨_, by rw [List.length_replicate]; exact h, fun i l hi => ?_⟩
  obtain ⟨hin, rfl⟩ : i < n ∧ l = [] := by
    rw [List.getElem?_replicate] at hi
    split at hi
    · exact ⟨by assumption, by injection hi with e; exact e.symm⟩
    · cases hi
  have hc : (Value.slice none 0 0).cells = #[.slice none 0 0] := rfl
  rw [hc]
  exact ⟨.slice none 0 0, by simp [madeCells, hin, Nat.mod_one], RI.nil _⟩
end Go.Proofs.YtihobnheficpjaaGreatDoor
namespace Go.Proofs.YtihobnheficpjaaGreatDoor
open Go.RowKit

/-- A slice of the integers l that lies below block B0: a part of an argument. -/
def ArgI (B0 : Nat) (w : World) (v : Value) (l : List Int) : Prop :=
  ∃ A n c, v = .slice A n c ∧ n ≤ c ∧ n = l.length ∧ n ≤ 9223372036854775807 ∧ ∀ j x, l[j]? = some x → ∃ g o, A = some ⟨g, o, none⟩ ∧ g < B0 ∧ w.cell? ⟨g, o + j, none⟩ = some (.int .i64 x)
section
variable {B0 : Nat} {w w' : World} {v : Value} {l : List Int}
theorem ArgI.kept {row : Option Nat} (h : ArgI B0 w v l) (hg : w.grownBy w' row) (hB : B0 ≤ w.heap.size) (hr : ∀ g, row = some g → B0 ≤ g) : ArgI B0 w' v l := by
  obtain ⟨A, n, c, h1, h2, h3, h4, h5⟩ := h
  refine ⟨A, n, c, h1, h2, h3, h4, fun j x hx => ?_⟩
  obtain ⟨g, o, k1, k2, k3⟩ := h5 j x hx
  refine ⟨g, o, k1, k2, ?_⟩
  rw [gb_cell hg (by show g < _; omega) (fun e => by have := hr _ e; simp at this; omega)]
  exact k3
theorem ArgI.new (h : ArgI B0 w v l) (hg : w.grownBy w' none) (hB : B0 ≤ w.heap.size) : ArgI B0 w' v l := h.kept hg hB (fun _ e => by cases e)
theorem ArgI.form (h : ArgI B0 w v l) : ∃ A n c, v = .slice A n c ∧ n ≤ c ∧ n = l.length ∧ n ≤ 9223372036854775807 := by
  obtain ⟨A, n, c, h1, h2, h3, h4, _⟩ := h
  exact ⟨A, n, c, h1, h2, h3, h4⟩
theorem ArgI.at_ {A : Option Addr} {n c k : Nat} (h : ArgI B0 w (.slice A n c) l) (hk : k < n) : ∃ g o x, A = some ⟨g, o, none⟩ ∧ g < B0 ∧ l[k]? = some x ∧ w.cell? ⟨g, o + k, none⟩ = some (.int .i64 x) := by
  obtain ⟨A', n', c', h1, h2, h3, h4, h5⟩ := h
  injection h1 with e1 e2 e3
  subst e1 e2 e3
  have hx : l[k]? = some l[k] := List.getElem?_eq_getElem (by omega)
  obtain ⟨g, o, k1, k2, k3⟩ := h5 k _ hx
  exact ⟨g, o, _, k1, k2, hx, k3⟩
theorem lt_of_cell__ {w : World} {a : Addr} {v : Value} (h : w.cell? a = some v) : a.block < w.heap.size := by
  unfold World.cell? at h
  split at h
  · rename_i hb; exact (Array.getElem?_eq_some_iff.1 hb).1
  · cases h
theorem RI.arg (h : RI w v l) : ArgI w.heap.size w v l := by
  obtain ⟨A, n, c, rfl, h2, h3⟩ := h.form'
  refine ⟨A, n, c, rfl, h2, h3, by have := h.le; omega, fun j x hx => ?_⟩
  obtain ⟨g, o, x', rfl, hx', hc⟩ := h.at_ (k := j) (by have := (List.getElem?_eq_some_iff.1 hx).1; omega)
  rw [hx] at hx'
  cases hx'
  exact ⟨g, o, rfl, lt_of_cell__ hc, hc⟩
end
theorem take_set {α : Type} (z : α) {l : List α} {k : Nat} {x : α} (h : l[k]? = some x) {n : Nat} (hn : n = l.length) : (l.take k ++ List.replicate (n - k) z).set k x = l.take (k + 1) ++ List.replicate (n - (k + 1)) z := by
  obtain ⟨hk, rfl⟩ := List.getElem?_eq_some_iff.1 h
  apply List.ext_getElem?
  intro i
  rw [List.getElem?_set]
  simp only [List.getElem?_append, List.length_append, List.length_take, List.length_replicate, List.getElem?_take, List.getElem?_replicate]
  rw [Nat.min_eq_left (by omega), Nat.min_eq_left (by omega)]
  rcases Nat.lt_trichotomy i k with hi | hi | hi
  · rw [if_neg (by omega), if_pos hi, if_pos hi, if_pos (by omega), if_pos (by omega)]
  · subst hi
    rw [if_pos rfl, if_pos (by omega), if_pos (by omega), if_pos (by omega)]
    exact (List.getElem?_eq_getElem hk).symm
  · rw [if_neg (by omega), if_neg (by omega), if_neg (show ¬ i < k + 1 by omega)]
    by_cases h2 : i < n
    · rw [if_pos (by omega), if_pos (by omega)]
    · rw [if_neg (by omega), if_neg (by omega)]
theorem slice_block {a b : Addr} {n c n' c' : Nat} (h : Value.slice (some a) n c = .slice (some b) n' c') : a.block = b.block := by
  injection h with e
  injection e with e
  rw [e]
/-- What a size law answers: at most what was left; where it is not negative, all fits. -/
def SzPost (left : Int) (fits : Prop) (e : Ending) : Prop := ∃ z : Int, e = .returned (.int .i64 z) ∧ z ≤ left ∧ -1 ≤ z ∧ (0 ≤ z → fits)

/-- The size law of a row: what is left, or -1. -/
theorem szIntS_any (B0 : Nat) (v : Value) (l : List Int) (left : Int) (w : World) (h : ArgI B0 w v l) (h0 : 0 ≤ left) (h1 : left ≤ 1048576) :
    Calls Tryz.prog 73 #[v, .int .i64 left] w fun e w' => SzPost left ((l.length : Int) ≤ left) e ∧ w = w' := by
  obtain ⟨A, n, c, rfl, h2, h3, h4⟩ := h.form
  rw [← h3]
  clear h3 h
  by_cases hn : left < n
  · go_enter Tryz.func73, Tryz.ntmps73
    go_wp2_with fail
    go_ret
    exact ⟨⟨_, rfl, by omega, by omega, by omega⟩, rfl⟩
  · go_enter Tryz.func73, Tryz.ntmps73
    go_wp2_with fail
    go_ret
    exact ⟨⟨left - n, rfl, by omega, by omega, fun _ => by first | trivial | omega⟩, rfl⟩

def IntsPost (w : World) (l : List Int) (e : Ending) (w' : World) : Prop := ∃ v', e = .returned v' ∧ OwnI w' w.heap.size v' l ∧ w.grownBy w' none
theorem toIntS_any (B0 : Nat) (v : Value) (l : List Int) (w : World) (h : ArgI B0 w v l) (hB : B0 ≤ w.heap.size) (hl : l.length ≤ 1048576) :
    Calls Tryz.prog 76 #[v] w (IntsPost w l) := by
  obtain ⟨A, n, c, rfl, h2, h3, h4⟩ := h.form
  have hn : n ≤ 1048576 := by omega
  have Hn := Lib.hid h3
  clear h3 hl
  obtain ⟨i0, hi, hz0, hz1, hz2⟩ := info_parts info3
  go_enter Tryz.func76, Tryz.ntmps76
  go_wp2_with (at_make; go_must (refine wpList_make_full _ rfl _ _ 25 rfl w.heap.size 3 i0 _ 1 Tryz.underlying25 hi hz0 hz1 _ _ _ _ n rfl rfl rfl rfl (by rw [hz2]; omega) (by unfold maxLen; omega) (Nat.le_refl _) ?_))
  intro w0 hown0 hg0
  have H0 : Hid (OwnI w0 w.heap.size (.slice (some ⟨w.heap.size, 0, none⟩) n n) (l.take 0 ++ List.replicate (n - 0) 0)) := by
    show OwnI w0 w.heap.size (.slice (some ⟨w.heap.size, 0, none⟩) n n) (l.take 0 ++ List.replicate (n - 0) 0)
    unfold OwnI
    have e : (madeCells #[Value.int .i64 0] n).toList = (l.take 0 ++ List.replicate (n - 0) (0 : Int)).map (.int .i64) := by
      apply List.ext_getElem?
      intro j
      by_cases hj : j < n
      · simp [madeCells, hj, Nat.mod_one]
      · simp [madeCells, hj]
    have hL : (l.take 0 ++ List.replicate (n - 0) (0 : Int)).length = n := by simp
    rw [hL, ← e]
    exact hown0
  clear hown0
  go_wp2_with fail
  go_loopw [4] (fun i wr => ∃ k : Nat, k ≤ n ∧ i = .int .i64 k ∧ Hid (OwnI wr w.heap.size (.slice (some ⟨w.heap.size, 0, none⟩) n n) (l.take k ++ List.replicate (n - k) 0)) ∧ w.grownBy wr none) (fun i _ => n - (intOf i).toNat)
  case atStart => exact ⟨0, Nat.zero_le _, rfl, H0, hg0⟩
  case round =>
    clear H0 hg0
    obtain ⟨k, hk, rfl, Ho, hg⟩ := hrel
    by_cases hlt : k < n
    · have hw := h.new hg hB
      obtain ⟨g, o, x, rfl, hgB, hx, c0⟩ := hw.at_ hlt
      have hlen : (l.take k ++ List.replicate (n - k) (0 : Int)).length = n := by rw [List.length_append, List.length_take, List.length_replicate, ← Hn.out]; omega
      obtain ⟨g', cap', cur, he, _, _, hb, hcs⟩ := Ho.out.form (by omega)
      obtain ⟨y, hy⟩ : ∃ y, (l.take k ++ List.replicate (n - k) (0 : Int))[k]? = some y := ⟨_, List.getElem?_eq_getElem (by omega)⟩
      obtain rfl : w.heap.size = g' := slice_block he
      have c1 := hcs k y hy
      have f1 := hb.frozen k
      have Ho2 : Hid (OwnI (wr.setCell ⟨w.heap.size, k, none⟩ (.int .i64 x)) w.heap.size (.slice (some ⟨w.heap.size, 0, none⟩) n n) (l.take (k + 1) ++ List.replicate (n - (k + 1)) 0)) := by
        show OwnI _ _ _ _
        rw [← take_set 0 hx Hn.out]
        exact Ho.out.set_ hlen.symm k x
      have hg2 : w.grownBy (wr.setCell ⟨w.heap.size, k, none⟩ (.int .i64 x)) none := gb_set (p := ⟨w.heap.size, k, none⟩) hg (.inl (Nat.le_refl _)) _
      clear hx hlen he hb hcs hy Ho hg
      go_wp2_with fail
      go_roundw
      case rel => exact ⟨k + 1, by omega, by go_num, Ho2, hg2⟩
      case measure => simp [intOf]; omega
    · obtain rfl : k = n := by omega
      have Ho2 : OwnI wr w.heap.size (.slice (some ⟨w.heap.size, 0, none⟩) k k) l := by
        have := Ho.out
        rw [Nat.sub_self, List.take_of_length_le (by rw [← Hn.out]; omega)] at this
        simpa using this
      clear Ho
      go_wp2_with fail
      go_ret
      exact ⟨_, rfl, Ho2, hg⟩

/-- Two rows that read alike are the same. -/
theorem eqIntS_any (v v' : Value) (l : List Int) (w : World) (h : RI w v l) (h' : RI w v' l) : Calls Tryz.prog 78 #[v, v'] w fun e w' => e = .returned (.bool true) ∧ w.grownBy w' none := by
  obtain ⟨A, n, c, rfl, h2, h3⟩ := h.form'
  obtain ⟨A', n', c', rfl, h2', h3'⟩ := h'.form'
  have hle := h.le
  obtain rfl : n = n' := by omega
  have hn : n ≤ 9223372036854775807 := by omega
  clear h3 h3' hle
  go_enter Tryz.func78, Tryz.ntmps78
  go_wp2_with fail
  go_loopw [5] (fun i wr => ∃ k : Nat, k ≤ n ∧ i = .int .i64 k ∧ w.grownBy wr none) (fun i _ => n - (intOf i).toNat)
  case atStart => exact ⟨0, Nat.zero_le _, rfl, gb_refl _ _⟩
  case round =>
    obtain ⟨k, hk, rfl, hg⟩ := hrel
    have hw := h.new hg
    have hw' := h'.new hg
    by_cases hlt : k < n
    · obtain ⟨g, o, x, rfl, hx, c0⟩ := hw.at_ hlt
      obtain ⟨g', o', x', rfl, hx', c1⟩ := hw'.at_ hlt
      obtain rfl : x = x' := by rw [hx] at hx'; injection hx'
      clear hx hx'
      go_wp2_with fail
      go_quiet (fail)
      go_wp2_with fail
      go_roundw
      case rel => exact ⟨k + 1, by omega, by go_num, gb_drewN hg _⟩
      case measure => simp [intOf]; omega
    · go_wp2_with fail
      go_ret
      exact ⟨rfl, hg⟩
end Go.Proofs.YtihobnheficpjaaGreatDoor
namespace Go.Proofs.YtihobnheficpjaaGreatDoor
open Go.RowKit

/-- A slice of nodes that lies below block B0: an argument. -/
def ArgN (B0 : Nat) (w : World) (v : Value) (plan : List Node) : Prop :=
  ∃ A n c, v = .slice A n c ∧ n ≤ c ∧ n = plan.length ∧ n ≤ 9223372036854775807 ∧ ∀ k nd, plan[k]? = some nd → ∃ g o f r, A = some ⟨g, o, none⟩ ∧ g < B0 ∧
    w.cell? ⟨g, o + k * 3, none⟩ = some (.int .i64 nd.kind) ∧ w.cell? ⟨g, o + k * 3 + 1, none⟩ = some f ∧ w.cell? ⟨g, o + k * 3 + 2, none⟩ = some r ∧ ArgI B0 w f nd.frm ∧ ArgI B0 w r nd.row
theorem ArgN.kept {B0 : Nat} {w w' : World} {v : Value} {plan : List Node} {row : Option Nat} (h : ArgN B0 w v plan) (hg : w.grownBy w' row) (hB : B0 ≤ w.heap.size) (hr : ∀ g, row = some g → B0 ≤ g) : ArgN B0 w' v plan := by
  obtain ⟨A, n, c, h1, h2, h3, h4, h5⟩ := h
  refine ⟨A, n, c, h1, h2, h3, h4, fun k nd hx => ?_⟩
  obtain ⟨g, o, f, r, k1, k2, k3, k4, k5, k6, k7⟩ := h5 k nd hx
  have e : ∀ j, w'.cell? ⟨g, j, none⟩ = w.cell? ⟨g, j, none⟩ := fun j => gb_cell hg (by show g < _; omega) (fun e => by have := hr _ e; simp at this; omega)
  exact ⟨g, o, f, r, k1, k2, by rw [e]; exact k3, by rw [e]; exact k4, by rw [e]; exact k5, k6.kept hg hB hr, k7.kept hg hB hr⟩
theorem ArgN.new {B0 : Nat} {w w' : World} {v : Value} {plan : List Node} (h : ArgN B0 w v plan) (hg : w.grownBy w' none) (hB : B0 ≤ w.heap.size) : ArgN B0 w' v plan := h.kept hg hB (fun _ e => by cases e)
theorem ArgN.form {B0 : Nat} {w : World} {v : Value} {plan : List Node} (h : ArgN B0 w v plan) : ∃ A n c, v = .slice A n c ∧ n ≤ c ∧ n = plan.length ∧ n ≤ 9223372036854775807 := by
  obtain ⟨A, n, c, h1, h2, h3, h4, _⟩ := h
  exact ⟨A, n, c, h1, h2, h3, h4⟩
theorem ArgN.at_ {B0 : Nat} {w : World} {plan : List Node} {A : Option Addr} {n c k : Nat} (h : ArgN B0 w (.slice A n c) plan) (hk : k < n) : ∃ g o nd f r, A = some ⟨g, o, none⟩ ∧ g < B0 ∧ plan[k]? = some nd ∧
    w.cell? ⟨g, o + k * 3, none⟩ = some (.int .i64 nd.kind) ∧ w.cell? ⟨g, o + k * 3 + 1, none⟩ = some f ∧ w.cell? ⟨g, o + k * 3 + 2, none⟩ = some r ∧ ArgI B0 w f nd.frm ∧ ArgI B0 w r nd.row := by
  obtain ⟨A', n', c', h1, h2, h3, h4, h5⟩ := h
  injection h1 with e1 e2 e3
  subst e1 e2 e3
  have hx : plan[k]? = some plan[k] := List.getElem?_eq_getElem (by omega)
  obtain ⟨g, o, f, r, k1, k2, k3, k4, k5, k6, k7⟩ := h5 k _ hx
  exact ⟨g, o, _, f, r, k1, k2, hx, k3, k4, k5, k6, k7⟩

/-- A row of nodes of the call's own, with its rows of integers. -/
def DC (w : World) (base : Nat) (xs : List Value) (i : Nat) (nd : Node) : Prop :=
  ∃ f r, xs[i * 3]? = some (.int .i64 nd.kind) ∧ xs[i * 3 + 1]? = some f ∧ xs[i * 3 + 2]? = some r ∧ OwnI w base f nd.frm ∧ OwnI w base r nd.row
def DN (w : World) (base : Nat) (v : Value) (plan : List Node) : Prop := ∃ xs, w.ownsRow base 94 3 v plan.length xs ∧ ∀ i nd, plan[i]? = some nd → DC w base xs i nd
theorem DN.own {w : World} {base : Nat} {v : Value} {plan : List Node} (h : DN w base v plan) : OwnN w base v plan := by
  obtain ⟨xs, h1, h2⟩ := h
  refine ⟨xs, h1, fun i nd hi => ?_⟩
  obtain ⟨f, r, k1, k2, k3, k4, k5⟩ := h2 i nd hi
  exact ⟨f, r, k1, k2, k3, k4.ri, k5.ri⟩
theorem DN.rn {w : World} {base : Nat} {v : Value} {plan : List Node} (h : DN w base v plan) : RN w v plan := h.own.rn
theorem DN.new {w w' : World} {base : Nat} {v : Value} {plan : List Node} (h : DN w base v plan) (hg : w.grownBy w' none) : DN w' base v plan := by
  obtain ⟨xs, h1, h2⟩ := h
  refine ⟨xs, own_grown h1 hg (NotE.none _ _), fun i nd hi => ?_⟩
  obtain ⟨f, r, k1, k2, k3, k4, k5⟩ := h2 i nd hi
  exact ⟨f, r, k1, k2, k3, k4.new hg, k5.new hg⟩
theorem DN.set_ {w : World} {base g n cap k : Nat} {plan : List Node} {nd : Node} {f r : Value} (h : DN w base (.slice (some ⟨g, 0, none⟩) n cap) plan) (hn : plan.length = n) (hk : k < n) (hf : OwnI w base f nd.frm) (hr : OwnI w base r nd.row) :
    DN (((w.setCell ⟨g, k * 3, none⟩ (.int .i64 nd.kind)).setCell ⟨g, k * 3 + 1, none⟩ f).setCell ⟨g, k * 3 + 2, none⟩ r) base (.slice (some ⟨g, 0, none⟩) n cap) (plan.set k nd) := by
  subst hn
  obtain ⟨xs, h1, h2⟩ := h
  have s1 := World.ownsRow.stored h1 (k * 3) (.int .i64 nd.kind)
  have s2 := World.ownsRow.stored s1.1 (k * 3 + 1) f
  have s3 := World.ownsRow.stored s2.1 (k * 3 + 2) r
  have hg : w.grownBy (((w.setCell ⟨g, k * 3, none⟩ (.int .i64 nd.kind)).setCell ⟨g, k * 3 + 1, none⟩ f).setCell ⟨g, k * 3 + 2, none⟩ r) (some g) := gb_trans (gb_trans s1.2 s2.2) s3.2
  have hne : NotE w 3 (some g) := NotE.own (v := .slice (some ⟨g, 0, none⟩) plan.length cap) h1 (by decide)
  have hxl := h1.1
  refine ⟨_, by rw [List.length_set]; exact s3.1, fun i x hi => ?_⟩
  by_cases hik : i = k
  · subst hik
    rw [List.getElem?_set_self hk] at hi
    obtain rfl : nd = x := by simpa using hi
    refine ⟨f, r, ?_, ?_, ?_, hf.grown hg hne, hr.grown hg hne⟩
    · rw [List.getElem?_set_ne (by omega), List.getElem?_set_ne (by omega), List.getElem?_set_self (by omega)]
    · rw [List.getElem?_set_ne (by omega), List.getElem?_set_self (by rw [List.length_set]; omega)]
    · rw [List.getElem?_set_self (by rw [List.length_set, List.length_set]; omega)]
  · rw [List.getElem?_set_ne (fun e => hik e.symm)] at hi
    obtain ⟨f', r', k1, k2, k3, k4, k5⟩ := h2 i x hi
    refine ⟨f', r', ?_, ?_, ?_, k4.grown hg hne, k5.grown hg hne⟩
    all_goals rw [List.getElem?_set_ne (by omega), List.getElem?_set_ne (by omega), List.getElem?_set_ne (by omega)]; assumption
theorem DN.made {w : World} {base n : Nat} {v : Value} (h : w.ownsRow base 94 3 v n (madeCells (Value.agg #[.int .i64 0, .slice none 0 0, .slice none 0 0]).cells (n * 3)).toList) : DN w base v (List.replicate n ⟨0, [], []⟩) := by
  refine ⟨_, by rw [List.length_replicate]; exact h, fun i nd hi => ?_⟩
  obtain ⟨hin, rfl⟩ : i < n ∧ nd = ⟨0, [], []⟩ := by
    rw [List.getElem?_replicate] at hi
    split at hi
    · exact ⟨by assumption, by injection hi with e; exact e.symm⟩
    · cases hi
  have hc : (Value.agg #[.int .i64 0, .slice none 0 0, .slice none 0 0]).cells = #[.int .i64 0, .slice none 0 0, .slice none 0 0] := rfl
  rw [hc]
  refine ⟨.slice none 0 0, .slice none 0 0, ?_, ?_, ?_, OwnI.nil _ _, OwnI.nil _ _⟩
  · simp [madeCells, show i * 3 < n * 3 by omega]
  · simp [madeCells, show i * 3 + 1 < n * 3 by omega, show (i * 3 + 1) % 3 = 1 by omega]
  · simp [madeCells, show i * 3 + 2 < n * 3 by omega, show (i * 3 + 2) % 3 = 2 by omega]

theorem szNode_any (B0 : Nat) (f r : Value) (nd : Node) (left : Int) (w : World) (hf : ArgI B0 w f nd.frm) (hr : ArgI B0 w r nd.row) (hB : B0 ≤ w.heap.size) (h0 : 0 ≤ left) (h1 : left ≤ 1048576) :
    Calls Tryz.prog 71 #[.agg #[.int .i64 nd.kind, f, r], .int .i64 left] w fun e w' => SzPost left ((nd.frm.length : Int) ≤ left ∧ (nd.row.length : Int) ≤ left) e ∧ w.grownBy w' none := by
  go_enter Tryz.func71, Tryz.ntmps71
  go_wp2_with fail
  refine (szIntS_any B0 f nd.frm left _ (hf.new (gb_alloc (gb_refl w none) _) hB) h0 h1).mono ?_
  rintro e w1 ⟨⟨z, rfl, hz1, hz2, hz3⟩, rfl⟩
  by_cases hz : 0 ≤ z
  · have h3 := hz3 hz
    clear hz3
    go_wp2_with fail
    refine (szIntS_any B0 r nd.row z _ (hr.new (gb_alloc (gb_refl w none) _) hB) hz (by omega)).mono ?_
    rintro e w1 ⟨⟨y, rfl, hy1, hy2, hy3⟩, rfl⟩
    by_cases hy : 0 ≤ y
    · have h4 := hy3 hy
      clear hy3
      go_wp2_with fail
      go_ret
      exact ⟨⟨y, rfl, by omega, by omega, fun _ => ⟨h3, by omega⟩⟩, gb_alloc (gb_refl w none) _⟩
    · clear hy3
      go_wp2_with fail
      go_ret
      exact ⟨⟨-1, rfl, by omega, by omega, fun h => by omega⟩, gb_alloc (gb_refl w none) _⟩
  · clear hz3
    go_wp2_with fail
    go_ret
    exact ⟨⟨-1, rfl, by omega, by omega, fun h => by omega⟩, gb_alloc (gb_refl w none) _⟩

/-- All of a plan is short. -/
def fitsN (plan : List Node) : Prop := plan.length ≤ 1048576 ∧ ∀ nd ∈ plan, nd.frm.length ≤ 1048576 ∧ nd.row.length ≤ 1048576
theorem szNodeS_any (B0 : Nat) (v : Value) (plan : List Node) (left : Int) (w : World) (h : ArgN B0 w v plan) (hB : B0 ≤ w.heap.size) (h0 : 0 ≤ left) (h1 : left ≤ 1048576) :
    Calls Tryz.prog 27 #[v, .int .i64 left] w fun e w' => SzPost left (fitsN plan) e ∧ w.grownBy w' none := by
  obtain ⟨A, n, c, rfl, h2, h3, h4⟩ := h.form
  have Hn := Lib.hid h3
  clear h3
  by_cases hn : left < n
  · go_enter Tryz.func27, Tryz.ntmps27
    go_wp2_with fail
    go_ret
    exact ⟨⟨-1, rfl, by omega, by omega, fun h => by omega⟩, gb_refl _ _⟩
  · go_enter Tryz.func27, Tryz.ntmps27
    go_wp2_with fail
    go_loopw [1, 5] (fun s i wr => ∃ (k : Nat) (z : Int), k ≤ n ∧ i = .int .i64 k ∧ s = .int .i64 z ∧ 0 ≤ z ∧ z ≤ left ∧ Hid (∀ j nd, j < k → plan[j]? = some nd → nd.frm.length ≤ 1048576 ∧ nd.row.length ≤ 1048576) ∧ w.grownBy wr none) (fun _ i _ => n - (intOf i).toNat)
    case atStart => exact ⟨0, left - n, Nat.zero_le _, rfl, rfl, by omega, by omega, fun j nd hj => by omega, gb_refl _ _⟩
    case round =>
      obtain ⟨k, z, hk, rfl, rfl, hz0, hz1, Hall, hg⟩ := hrel
      by_cases hlt : k < n
      · obtain ⟨g, o, nd, f, r, rfl, hgB, hx, c0, c1, c2, hf, hr⟩ := (h.new hg hB).at_ hlt
        have Hx := Lib.hid hx
        clear hx
        have hsz := hg.size
        go_wp2_with fail
        refine (szNode_any B0 f r nd z _ hf hr (by omega) hz0 (by omega)).mono ?_
        rintro e w1 ⟨⟨y, rfl, hy1, hy2, hy3⟩, hg1⟩
        by_cases hy : 0 ≤ y
        · have h5 := hy3 hy
          have Hall2 : Hid (∀ j nd, j < k + 1 → plan[j]? = some nd → nd.frm.length ≤ 1048576 ∧ nd.row.length ≤ 1048576) := by
            intro j nd' hj hx'
            by_cases hjk : j = k
            · subst hjk
              have e := Hx.out
              rw [hx'] at e
              cases e
              omega
            · exact Hall.out j nd' (by omega) hx'
          clear hy3 h5
          go_wp2_with fail
          go_roundw
          case rel => exact ⟨k + 1, y, by omega, by go_num, rfl, hy, by omega, Hall2, gb_trans hg hg1⟩
          case measure => simp [intOf]; omega
        · clear hy3
          go_wp2_with fail
          go_ret
          exact ⟨⟨-1, rfl, by omega, by omega, fun h => by omega⟩, gb_trans hg hg1⟩
      · obtain rfl : k = n := by omega
        have hfit : Hid (fitsN plan) := by
          refine ⟨by rw [← Hn.out]; omega, fun nd hm => ?_⟩
          obtain ⟨j, hj⟩ := List.mem_iff_getElem?.1 hm
          exact Hall.out j nd (by rw [Hn.out]; exact (List.getElem?_eq_some_iff.1 hj).1) hj
        go_wp2_with fail
        go_ret
        exact ⟨⟨z, rfl, by omega, by omega, fun _ => hfit.out⟩, hg⟩
end Go.Proofs.YtihobnheficpjaaGreatDoor
