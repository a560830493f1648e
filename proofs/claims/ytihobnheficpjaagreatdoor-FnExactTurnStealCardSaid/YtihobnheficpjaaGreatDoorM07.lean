/- Walks: the laws' copies of plans: toNode, toNodeS. · Walks: the laws' copies of rows of rows: sizes, copies, comparisons; rows of rows of the call's own, no two in one block. · Words for memory: crews. Conditions: none. -/
import Derived.Test.YtihobnheficpjaaGreatDoorM06
import Derived.Deep.RegionHeld3
import Derived.Test.YtihobnheficpjaaGreatDoorM04
import Derived.Deep.LoopGhost
namespace Go.Proofs.YtihobnheficpjaaGreatDoor
open Go.RowKit

/-- Under way: the argument's block, the result's, the copy's. -/
structure TMid (w wx : World) (kind : Int) (f r : Value) (k' : Int) (f' r' : Value) : Prop where
  s : Blk wx w.heap.size 91 #[.int .i64 kind, f, r]
  res : Blk wx (w.heap.size + 1) 94 #[.int .i64 0, .slice none 0 0, .slice none 0 0]
  o : Blk wx (w.heap.size + 1 + 1) 94 #[.int .i64 k', f', r']
  g : w.grownBy wx none
theorem TMid.new (w : World) (kind : Int) (f r : Value) : TMid w (((w.alloc (.cells #[.int .i64 kind, f, r] 91)).alloc (.cells #[.int .i64 0, .slice none 0 0, .slice none 0 0] 94)).alloc (.cells #[.int .i64 kind, .slice none 0 0, .slice none 0 0] 94)) kind f r kind (.slice none 0 0) (.slice none 0 0) := by
  refine ⟨((Blk.new w _ _).alloc _).alloc _, ?_, ?_, gb_alloc (gb_alloc (gb_alloc (gb_refl w none) _) _) _⟩
  · have := (Blk.new (w.alloc (.cells #[.int .i64 kind, f, r] 91)) 94 #[.int .i64 0, .slice none 0 0, .slice none 0 0]).alloc (.cells #[.int .i64 kind, .slice none 0 0, .slice none 0 0] 94)
    rw [World.size_alloc] at this
    exact this
  · have := Blk.new ((w.alloc (.cells #[.int .i64 kind, f, r] 91)).alloc (.cells #[.int .i64 0, .slice none 0 0, .slice none 0 0] 94)) 94 #[.int .i64 kind, .slice none 0 0, .slice none 0 0]
    rw [World.size_alloc, World.size_alloc] at this
    exact this
theorem TMid.call {w wx wy : World} {kind k' : Int} {f r f' r' : Value} (M : TMid w wx kind f r k' f' r') (hg : wx.grownBy wy none) : TMid w wy kind f r k' f' r' :=
  ⟨M.s.grown hg (by simp), M.res.grown hg (by simp), M.o.grown hg (by simp), gb_trans M.g hg⟩
theorem TMid.store {w wx : World} {kind k' k2 : Int} {f r f' r' f2 r2 : Value} (M : TMid w wx kind f r k' f' r') (j : Nat) (u : Value) (hc : #[.int .i64 k', f', r'].setIfInBounds j u = #[.int .i64 k2, f2, r2]) :
    TMid w (wx.setCell ⟨w.heap.size + 1 + 1, j, none⟩ u) kind f r k2 f2 r2 :=
  ⟨M.s.far (by show w.heap.size ≠ w.heap.size + 1 + 1; omega) u, M.res.far (by show w.heap.size + 1 ≠ w.heap.size + 1 + 1; omega) u, hc ▸ M.o.set_ j u, gb_set (p := ⟨w.heap.size + 1 + 1, j, none⟩) M.g (.inl (by show w.heap.size ≤ w.heap.size + 1 + 1; omega)) u⟩
def NodeCopy (w : World) (nd : Node) (e : Ending) (w' : World) : Prop := ∃ f r, e = .returned (.agg #[.int .i64 nd.kind, f, r]) ∧ OwnI w' w.heap.size f nd.frm ∧ OwnI w' w.heap.size r nd.row ∧ w.grownBy w' none

theorem OwnI.lower {w : World} {a b : Nat} {v : Value} {l : List Int} (h : OwnI w a v l) (hab : b ≤ a) : OwnI w b v l := by
  refine ⟨h.1, ?_⟩
  rcases h.2 with h0 | ⟨g, cap, cur, h1, h2, h3⟩
  · exact .inl h0
  · exact .inr ⟨g, cap, cur, h1, Nat.le_trans hab h2, h3⟩
theorem OwnI.keep {w w' : World} {b g : Nat} {E : TypeId} {cs : Array Value} {v : Value} {l : List Int} (h : OwnI w b v l) (hg : w.grownBy w' (some g)) (hb : Blk w g E cs) (hE : 3 ≠ E) : OwnI w' b v l := h.grown hg (NotE.blk hb hE)

set_option maxRecDepth 20000 in
theorem toNode_any (B0 : Nat) (f r : Value) (nd : Node) (w : World) (hf : ArgI B0 w f nd.frm) (hr : ArgI B0 w r nd.row) (hB : B0 ≤ w.heap.size) (hl1 : nd.frm.length ≤ 1048576) (hl2 : nd.row.length ≤ 1048576) :
    Calls Tryz.prog 74 #[.agg #[.int .i64 nd.kind, f, r]] w (NodeCopy w nd) := by
  obtain ⟨A1, n1, c1, rfl, -, -, -⟩ := hf.form
  obtain ⟨A2, n2, c2, rfl, -, -, -⟩ := hr.form
  have M1 := TMid.new w nd.kind (.slice A1 n1 c1) (.slice A2 n2 c2)
  go_enter Tryz.func74, Tryz.ntmps74
  go_wp2_with fail
  generalize (((w.alloc (.cells #[.int .i64 nd.kind, .slice A1 n1 c1, .slice A2 n2 c2] 91)).alloc (.cells #[.int .i64 0, .slice none 0 0, .slice none 0 0] 94)).alloc (.cells #[.int .i64 nd.kind, .slice none 0 0, .slice none 0 0] 94)) = X at *
  have hs1 := M1.g.size
  refine (toIntS_any B0 _ nd.frm X (hf.new M1.g hB) (by omega) hl1).mono ?_
  rintro e w1 ⟨v1, rfl, ho1, hg1⟩
  have M2 := M1.call hg1
  obtain ⟨B1, m1, e1, rfl⟩ := ho1.ri.val
  have o1 := ho1.lower (b := w.heap.size) hs1
  have k1 := M2.o.cell 1
  have f1 := M2.o.frozen 1
  have M3 := M2.store (k2 := nd.kind) (f2 := .slice B1 m1 e1) (r2 := .slice none 0 0) 1 (.slice B1 m1 e1) rfl
  have o3 := o1.keep (gb_set (p := ⟨w.heap.size + 1 + 1, 1, none⟩) (gb_refl w1 (some (w.heap.size + 1 + 1))) (.inr rfl) (.slice B1 m1 e1)) M2.o (by decide)
  have d2 := M3.s.cell 2
  have hs3 := M3.g.size
  clear ho1 o1 M1
  go_wp2_with fail
  generalize w1.setCell ⟨w.heap.size + 1 + 1, 1, none⟩ (.slice B1 m1 e1) = Y at *
  refine (toIntS_any B0 _ nd.row Y (hr.new M3.g hB) (by omega) hl2).mono ?_
  rintro e w4 ⟨v4, rfl, ho4, hg4⟩
  have M4 := M3.call hg4
  obtain ⟨B4, m4, e4, rfl⟩ := ho4.ri.val
  have o4 := ho4.lower (b := w.heap.size) hs3
  have o5 := o3.new hg4
  have M5 := M4.store (k2 := nd.kind) (f2 := .slice B1 m1 e1) (r2 := .slice B4 m4 e4) 2 (.slice B4 m4 e4) rfl
  have hgs := gb_set (p := ⟨w.heap.size + 1 + 1, 2, none⟩) (gb_refl w4 (some (w.heap.size + 1 + 1))) (.inr rfl) (.slice B4 m4 e4)
  have o6 := o4.keep hgs M4.o (by decide)
  have o7 := o5.keep hgs M4.o (by decide)
  have k2 := M4.o.cell 2
  have f2 := M4.o.frozen 2
  have k50 := M5.o.cell 0
  have k51 := M5.o.cell 1
  have k52 := M5.o.cell 2
  have r50 := M5.res.cell 0
  have r51 := M5.res.cell 1
  have r52 := M5.res.cell 2
  have q50 := M5.res.frozen 0
  have q51 := M5.res.frozen 1
  have q52 := M5.res.frozen 2
  go_wp2_with fail
  generalize w4.setCell ⟨w.heap.size + 1 + 1, 2, none⟩ (.slice B4 m4 e4) = Z at *
  refine bodyPost_ret (v := .agg #[.int .i64 nd.kind, .slice B1 m1 e1, .slice B4 m4 e4]) (by simp [results, Tryz.results74, go_sem, r50, r51, r52]) rfl ?_
  have hst := gb_set3 Z (w.heap.size + 1) (.int .i64 nd.kind) (.slice B1 m1 e1) (.slice B4 m4 e4)
  exact ⟨_, _, rfl, o7.keep hst M5.res (by decide), o6.keep hst M5.res (by decide), gb_new M5.g hst (fun g e => by cases e; exact .inl (by omega))⟩

def PlanCopy (w : World) (plan : List Node) (e : Ending) (w' : World) : Prop := ∃ v', e = .returned v' ∧ DN w' w.heap.size v' plan ∧ w.grownBy w' none
set_option maxRecDepth 20000 in
theorem toNodeS_any (B0 : Nat) (v : Value) (plan : List Node) (w : World) (h : ArgN B0 w v plan) (hB : B0 ≤ w.heap.size) (hl : fitsN plan) :
    Calls Tryz.prog 29 #[v] w (PlanCopy w plan) := by
  obtain ⟨A, n, c, rfl, h2, h3, h4⟩ := h.form
  have hn : n ≤ 1048576 := by have := hl.1; omega
  have Hl := Lib.hid hl
  have Hn := Lib.hid h3
  clear h3 hl
  obtain ⟨i0, hi, hz0, hz1, hz2⟩ := info_parts info94
  go_enter Tryz.func29, Tryz.ntmps29
  go_wp2_with (at_make; go_must (refine wpList_make_full _ rfl _ _ 23 rfl w.heap.size 94 i0 _ 3 Tryz.underlying23 hi hz0 hz1 _ _ _ _ n rfl rfl rfl rfl (by rw [hz2]; omega) (by unfold maxLen; omega) (Nat.le_refl _) ?_))
  intro w0 hown0 hg0
  have H0 : Hid (DN w0 w.heap.size (.slice (some ⟨w.heap.size, 0, none⟩) n n) (plan.take 0 ++ List.replicate (n - 0) ⟨0, [], []⟩)) := by
    show DN w0 w.heap.size (.slice (some ⟨w.heap.size, 0, none⟩) n n) (plan.take 0 ++ List.replicate (n - 0) ⟨0, [], []⟩)
    exact DN.made hown0
  clear hown0
  go_wp2_with fail
  go_loopw [4] (fun i wr => ∃ k : Nat, k ≤ n ∧ i = .int .i64 k ∧ Hid (DN wr w.heap.size (.slice (some ⟨w.heap.size, 0, none⟩) n n) (plan.take k ++ List.replicate (n - k) ⟨0, [], []⟩)) ∧ w.grownBy wr none) (fun i _ => n - (intOf i).toNat)
  case atStart => exact ⟨0, Nat.zero_le _, rfl, H0, hg0⟩
  case round =>
    clear H0 hg0
    obtain ⟨k, hk, rfl, Ho, hg⟩ := hrel
    by_cases hlt : k < n
    · have hw := h.new hg hB
      obtain ⟨g, o, nd, f, r, rfl, hgB, hx, c0, c1, c2, hf, hr⟩ := hw.at_ hlt
      have hsz := hg.size
      have hfr := Hl.out.2 nd (List.mem_of_getElem? hx)
      have Hx := Lib.hid hx
      clear hx
      go_wp2_with fail
      refine (toNode_any B0 f r nd wr hf hr (by omega) hfr.1 hfr.2).mono ?_
      rintro e w4 ⟨f', r', rfl, hf', hr', hg4⟩
      have hD := Ho.out.new hg4
      have hlen : (plan.take k ++ List.replicate (n - k) (⟨0, [], []⟩ : Node)).length = n := by rw [List.length_append, List.length_take, List.length_replicate, ← Hn.out]; omega
      have hD2 := hD.set_ hlen hlt (hf'.lower (b := w.heap.size) hsz) (hr'.lower (b := w.heap.size) hsz)
      rw [take_set _ Hx.out Hn.out] at hD2
      obtain ⟨g', cap', cur, he, _, _, hb, hcs⟩ := hD.own.form hlen (by omega)
      obtain rfl : w.heap.size = g' := slice_block he
      obtain ⟨u0, d0⟩ := hcs (k * 3) (by omega)
      obtain ⟨u1, d1⟩ := hcs (k * 3 + 1) (by omega)
      obtain ⟨u2, d2⟩ := hcs (k * 3 + 2) (by omega)
      have q0 := hb.frozen (k * 3)
      have q1 := hb.frozen (k * 3 + 1)
      have q2 := hb.frozen (k * 3 + 2)
      have hg5 : w.grownBy (((w4.setCell ⟨w.heap.size, k * 3, none⟩ (.int .i64 nd.kind)).setCell ⟨w.heap.size, k * 3 + 1, none⟩ f').setCell ⟨w.heap.size, k * 3 + 2, none⟩ r') none :=
        gb_set (p := ⟨w.heap.size, k * 3 + 2, none⟩) (gb_set (p := ⟨w.heap.size, k * 3 + 1, none⟩) (gb_set (p := ⟨w.heap.size, k * 3, none⟩) (gb_trans hg hg4) (.inl (Nat.le_refl _)) _) (.inl (Nat.le_refl _)) _) (.inl (Nat.le_refl _)) _
      obtain ⟨B1, m1, e1, rfl⟩ := hf'.ri.val
      obtain ⟨B4, m4, e4, rfl⟩ := hr'.ri.val
      have HD2 := Lib.hid hD2
      clear hlen he hb hcs Ho hg hD hD2 hf' hr' hf hr hw
      go_wp2_with fail
      go_roundw
      case rel => exact ⟨k + 1, by omega, by go_num, HD2, hg5⟩
      case measure => simp [intOf]; omega
    · obtain rfl : k = n := by omega
      have Ho2 : DN wr w.heap.size (.slice (some ⟨w.heap.size, 0, none⟩) k k) plan := by
        have := Ho.out
        rw [Nat.sub_self, List.take_of_length_le (by rw [← Hn.out]; omega)] at this
        simpa using this
      clear Ho
      go_wp2_with fail
      go_ret
      exact ⟨_, rfl, Ho2, hg⟩
end Go.Proofs.YtihobnheficpjaaGreatDoor
namespace Go.Proofs.YtihobnheficpjaaGreatDoor
open Go.RowKit

/-- A slice of rows that lies below block B0: a part of an argument. -/
def ArgL (B0 : Nat) (w : World) (v : Value) (ll : List (List Int)) : Prop :=
  ∃ A n c, v = .slice A n c ∧ n ≤ c ∧ n = ll.length ∧ n ≤ 9223372036854775807 ∧ ∀ k l, ll[k]? = some l → ∃ g o u, A = some ⟨g, o, none⟩ ∧ g < B0 ∧ w.cell? ⟨g, o + k, none⟩ = some u ∧ ArgI B0 w u l
section
variable {B0 : Nat} {w w' : World} {v : Value} {ll : List (List Int)}
theorem ArgL.kept {row : Option Nat} (h : ArgL B0 w v ll) (hg : w.grownBy w' row) (hB : B0 ≤ w.heap.size) (hr : ∀ g, row = some g → B0 ≤ g) : ArgL B0 w' v ll := by
  obtain ⟨A, n, c, h1, h2, h3, h4, h5⟩ := h
  refine ⟨A, n, c, h1, h2, h3, h4, fun k l hx => ?_⟩
  obtain ⟨g, o, u, k1, k2, k3, k4⟩ := h5 k l hx
  refine ⟨g, o, u, k1, k2, ?_, k4.kept hg hB hr⟩
  rw [gb_cell hg (by show g < _; omega) (fun e => by have := hr _ e; simp at this; omega)]
  exact k3
theorem ArgL.new (h : ArgL B0 w v ll) (hg : w.grownBy w' none) (hB : B0 ≤ w.heap.size) : ArgL B0 w' v ll := h.kept hg hB (fun _ e => by cases e)
theorem ArgL.form (h : ArgL B0 w v ll) : ∃ A n c, v = .slice A n c ∧ n ≤ c ∧ n = ll.length ∧ n ≤ 9223372036854775807 := by
  obtain ⟨A, n, c, h1, h2, h3, h4, _⟩ := h
  exact ⟨A, n, c, h1, h2, h3, h4⟩
theorem ArgL.at_ {A : Option Addr} {n c k : Nat} (h : ArgL B0 w (.slice A n c) ll) (hk : k < n) : ∃ g o l u, A = some ⟨g, o, none⟩ ∧ g < B0 ∧ ll[k]? = some l ∧ w.cell? ⟨g, o + k, none⟩ = some u ∧ ArgI B0 w u l := by
  obtain ⟨A', n', c', h1, h2, h3, h4, h5⟩ := h
  injection h1 with e1 e2 e3
  subst e1 e2 e3
  have hx : ll[k]? = some ll[k] := List.getElem?_eq_getElem (by omega)
  obtain ⟨g, o, u, k1, k2, k3, k4⟩ := h5 k _ hx
  exact ⟨g, o, _, u, k1, k2, hx, k3, k4⟩
end

/-- No two of the values have one block. -/
def Apart (ys : List Value) : Prop := ys.Pairwise fun u u' => ∀ g, u.ownBlock = some g → u'.ownBlock ≠ some g
theorem Apart.iff {ys : List Value} : Apart ys ↔ ∀ (i j : Nat) (u u' : Value) (g : Nat), i < j → ys[i]? = some u → ys[j]? = some u' → u.ownBlock = some g → u'.ownBlock ≠ some g := by
  unfold Apart
  rw [List.pairwise_iff_getElem]
  constructor
  · intro h i j u u' g hij hu hu' hg
    obtain ⟨a1, rfl⟩ := List.getElem?_eq_some_iff.1 hu
    obtain ⟨b1, rfl⟩ := List.getElem?_eq_some_iff.1 hu'
    exact h i j a1 b1 hij g hg
  · intro h i j hi hj hij g hg
    exact h i j _ _ g hij (List.getElem?_eq_getElem hi) (List.getElem?_eq_getElem hj) hg
theorem Apart.set {xs : List Value} {k s : Nat} {f : Value} (h : Apart xs) (hlt : ∀ u ∈ xs, ∀ g, u.ownBlock = some g → g < s) (hf : ∀ g, f.ownBlock = some g → s ≤ g) : Apart (xs.set k f) := by
  rw [Apart.iff] at *
  intro i j u u' g hij hu hu' hg hg'
  rw [List.getElem?_set] at hu hu'
  split at hu
  · split at hu
    · cases hu
      rw [if_neg (by omega)] at hu'
      have := hlt u' (List.mem_of_getElem? hu') g hg'
      have := hf g hg
      omega
    · cases hu
  · split at hu'
    · split at hu'
      · cases hu'
        have := hlt u (List.mem_of_getElem? hu) g hg
        have := hf g hg'
        omega
      · cases hu'
    · exact h i j u u' g hij hu hu' hg hg'
theorem Apart.nils (n : Nat) : Apart (List.replicate n (.slice none 0 0)) := by
  rw [Apart.iff]
  intro i j u u' g _ hu _ hg
  rw [List.getElem?_replicate] at hu
  split at hu
  · cases hu
    cases hg
  · cases hu
theorem Apart.join {xs ys : List Value} {s : Nat} (h1 : Apart xs) (h2 : Apart ys) (hx : ∀ u ∈ xs, ∀ g, u.ownBlock = some g → g < s) (hy : ∀ u ∈ ys, ∀ g, u.ownBlock = some g → s ≤ g) : Apart (xs ++ ys) := by
  unfold Apart at *
  rw [List.pairwise_append]
  refine ⟨h1, h2, fun a ha b hb g hg hg' => ?_⟩
  have := hx a ha g hg
  have := hy b hb g hg'
  omega
theorem Apart.one (u : Value) : Apart [u] := List.pairwise_singleton _ _
theorem Apart.left {xs ys : List Value} (h : Apart (xs ++ ys)) : Apart xs := (List.pairwise_append.1 h).1
theorem Apart.right {xs ys : List Value} (h : Apart (xs ++ ys)) : Apart ys := (List.pairwise_append.1 h).2.1

/-- A row of rows of the call's own, with its elements' values. -/
def LX (w : World) (base : Nat) (v : Value) (ll : List (List Int)) (xs : List Value) : Prop :=
  w.ownsRow base 25 1 v ll.length xs ∧ ∀ (i : Nat) (l : List Int), ll[i]? = some l → ∃ u, xs[i]? = some u ∧ OwnI w base u l
/-- A row of rows, all of the call's own, no two in one block. -/
def OwnLO (w : World) (base : Nat) (v : Value) (ll : List (List Int)) : Prop := ∃ xs, LX w base v ll xs ∧ Apart xs
section
variable {w w' : World} {v : Value} {ll : List (List Int)} {base : Nat} {row : Option Nat} {xs : List Value}
theorem LX.grown (h : LX w base v ll xs) (hg : w.grownBy w' row) (hr : NotE w 3 row) (hr' : NotE w 25 row) : LX w' base v ll xs := by
  refine ⟨own_grown h.1 hg hr', fun i l hi => ?_⟩
  obtain ⟨u, k1, k2⟩ := h.2 i l hi
  exact ⟨u, k1, k2.grown hg hr⟩
theorem LX.new (h : LX w base v ll xs) (hg : w.grownBy w' none) : LX w' base v ll xs := h.grown hg (NotE.none _ _) (NotE.none _ _)
theorem LX.rl (h : LX w base v ll xs) : RL w v ll := ⟨xs, TS.of_own h.1, fun i l hi => let ⟨u, k1, k2⟩ := h.2 i l hi; ⟨u, k1, k2.ri⟩⟩
theorem LX.lt (h : LX w base v ll xs) : ∀ g, v.ownBlock = some g → base ≤ g ∧ g < w.heap.size := World.ownsRow.lt h.1
theorem LX.len (h : LX w base v ll xs) : xs.length = ll.length := by have := h.1.1; omega
theorem LX.lts (h : LX w base v ll xs) : ∀ u ∈ xs, ∀ g, u.ownBlock = some g → base ≤ g ∧ g < w.heap.size := by
  intro u hu g hg
  obtain ⟨i, hi, rfl⟩ := List.getElem_of_mem hu
  have hl := h.len
  obtain ⟨u', k1, k2⟩ := h.2 i _ (List.getElem?_eq_getElem (by omega))
  rw [List.getElem?_eq_getElem hi] at k1
  cases k1
  exact k2.lt g hg
theorem LX.nil (w : World) (base : Nat) : LX w base (.slice none 0 0) [] [] := ⟨World.ownsRow_nil _ _ _ _, fun i nd h => by simp at h⟩
theorem LX.low {a b : Nat} (h : LX w a v ll xs) (hab : b ≤ a) : LX w b v ll xs := by
  refine ⟨⟨h.1.1, ?_⟩, fun i l hi => let ⟨u, k1, k2⟩ := h.2 i l hi; ⟨u, k1, k2.lower hab⟩⟩
  rcases h.1.2 with h0 | ⟨g, cap, cur, h1, h2, h3⟩
  · exact .inl h0
  · exact .inr ⟨g, cap, cur, h1, Nat.le_trans hab h2, h3⟩
theorem OwnLO.grown (h : OwnLO w base v ll) (hg : w.grownBy w' row) (hr : NotE w 3 row) (hr' : NotE w 25 row) : OwnLO w' base v ll := let ⟨xs, h1, h2⟩ := h; ⟨xs, h1.grown hg hr hr', h2⟩
theorem OwnLO.new (h : OwnLO w base v ll) (hg : w.grownBy w' none) : OwnLO w' base v ll := h.grown hg (NotE.none _ _) (NotE.none _ _)
theorem OwnLO.rl (h : OwnLO w base v ll) : RL w v ll := let ⟨_, h1, _⟩ := h; h1.rl
theorem OwnLO.lt (h : OwnLO w base v ll) : ∀ g, v.ownBlock = some g → base ≤ g ∧ g < w.heap.size := let ⟨_, h1, _⟩ := h; h1.lt
theorem OwnLO.nil (w : World) (base : Nat) : OwnLO w base (.slice none 0 0) [] := ⟨[], LX.nil _ _, .nil⟩
theorem OwnLO.low {a b : Nat} (h : OwnLO w a v ll) (hab : b ≤ a) : OwnLO w b v ll := let ⟨xs, h1, h2⟩ := h; ⟨xs, h1.low hab, h2⟩
end
theorem LX.cell {w : World} {base g n cap k : Nat} {ll : List (List Int)} {xs : List Value} (h : LX w base (.slice (some ⟨g, 0, none⟩) n cap) ll xs) (hk : k < ll.length) : ∃ u, w.cell? ⟨g, k, none⟩ = some u ∧ w.frozen? ⟨g, k, none⟩ = false := by
  rcases h.1.2 with ⟨e0, hz⟩ | ⟨g', cap', cur, e0, hb, hh, hn, hm, hcs, ht⟩
  · cases e0
  · injection e0 with e1 e2 e3
    injection e1 with e1
    injection e1 with e1
    subst e1 e3
    have hB : Blk w g 25 cur := hh
    refine ⟨cur[k]'(by rw [hcs]; omega), ?_, hB.frozen _⟩
    rw [hB.cell]
    exact Array.getElem?_eq_getElem (by rw [hcs]; omega)
theorem LX.set_ {w : World} {base g n cap k : Nat} {ll : List (List Int)} {l : List Int} {f : Value} {xs : List Value} (h : LX w base (.slice (some ⟨g, 0, none⟩) n cap) ll xs) (hk : k < ll.length) (hf : OwnI w base f l) :
    LX (w.setCell ⟨g, k, none⟩ f) base (.slice (some ⟨g, 0, none⟩) n cap) (ll.set k l) (xs.set k f) := by
  have hxl := h.len
  obtain ⟨h1, h2⟩ := h
  have hn : n = ll.length := by
    rcases h1.2 with ⟨e0, hz⟩ | ⟨g', cap', cur, e0, _⟩
    · cases e0
    · injection e0
  subst hn
  have s1 := World.ownsRow.stored h1 k f
  have hne : NotE w 3 (some g) := NotE.own (v := .slice (some ⟨g, 0, none⟩) ll.length cap) h1 (by decide)
  refine ⟨by rw [List.length_set]; exact s1.1, fun i x hi => ?_⟩
  by_cases hik : i = k
  · subst hik
    rw [List.getElem?_set_self hk] at hi
    obtain rfl : l = x := by simpa using hi
    exact ⟨f, by rw [List.getElem?_set_self (by omega)], hf.grown s1.2 hne⟩
  · rw [List.getElem?_set_ne (fun e => hik e.symm)] at hi
    obtain ⟨u, k1, k2⟩ := h2 i x hi
    exact ⟨u, by rw [List.getElem?_set_ne (fun e => hik e.symm)]; exact k1, k2.grown s1.2 hne⟩
theorem OwnLO.cell {w : World} {base g n cap k : Nat} {ll : List (List Int)} (h : OwnLO w base (.slice (some ⟨g, 0, none⟩) n cap) ll) (hk : k < ll.length) : ∃ u, w.cell? ⟨g, k, none⟩ = some u ∧ w.frozen? ⟨g, k, none⟩ = false := let ⟨_, h1, _⟩ := h; h1.cell hk
/-- A row made behind the others is put into it. -/
theorem OwnLO.set_ {a w : World} {base g n cap k : Nat} {ll : List (List Int)} {l : List Int} {f : Value} (h : OwnLO a base (.slice (some ⟨g, 0, none⟩) n cap) ll) (hg : a.grownBy w none) (hb : base ≤ a.heap.size) (hk : k < ll.length) (hf : OwnI w a.heap.size f l) :
    OwnLO (w.setCell ⟨g, k, none⟩ f) base (.slice (some ⟨g, 0, none⟩) n cap) (ll.set k l) := by
  obtain ⟨xs, h1, h2⟩ := h
  exact ⟨xs.set k f, (h1.new hg).set_ hk (hf.lower hb), h2.set (fun u hu g hg => (h1.lts u hu g hg).2) (fun g hg => (hf.lt g hg).1)⟩
theorem OwnLO.made {w : World} {base n : Nat} {v : Value} (h : w.ownsRow base 25 1 v n (madeCells (Value.slice none 0 0).cells n).toList) : OwnLO w base v (List.replicate n []) := by
  have hc : (madeCells (Value.slice none 0 0).cells n).toList = List.replicate n (.slice none 0 0) := by
    have hc0 : (Value.slice none 0 0).cells = #[.slice none 0 0] := rfl
    rw [hc0]
    apply List.ext_getElem?
    intro i
    rw [List.getElem?_replicate]
    by_cases hi : i < n
    · simp [madeCells, hi, Nat.mod_one]
    · simp [madeCells, hi]
  rw [hc] at h
  refine ⟨_, ⟨by rw [List.length_replicate]; exact h, fun i l hi => ?_⟩, Apart.nils n⟩
  obtain ⟨hin, rfl⟩ : i < n ∧ l = [] := by
    rw [List.getElem?_replicate] at hi
    split at hi
    · exact ⟨by assumption, by injection hi with e; exact e.symm⟩
    · cases hi
  exact ⟨.slice none 0 0, by simp [hin], OwnI.nil _ _⟩
/-- All of a row of rows is short. -/
def fitsL (ll : List (List Int)) : Prop := ll.length ≤ 1048576 ∧ ∀ l ∈ ll, l.length ≤ 1048576

theorem szIntSS_any (B0 : Nat) (v : Value) (ll : List (List Int)) (left : Int) (w : World) (h : ArgL B0 w v ll) (h0 : 0 ≤ left) (h1 : left ≤ 1048576) :
    Calls Tryz.prog 72 #[v, .int .i64 left] w fun e w' => SzPost left (fitsL ll) e ∧ w = w' := by
  obtain ⟨A, n, c, rfl, h2, h3, h4⟩ := h.form
  have Hn := Lib.hid h3
  clear h3
  by_cases hn : left < n
  · go_enter Tryz.func72, Tryz.ntmps72
    go_wp2_with fail
    go_ret
    exact ⟨⟨-1, rfl, by omega, by omega, fun h => by omega⟩, rfl⟩
  · go_enter Tryz.func72, Tryz.ntmps72
    go_wp2_with fail
    go_loop [1, 5] (fun s i => ∃ (k : Nat) (z : Int), k ≤ n ∧ i = .int .i64 k ∧ s = .int .i64 z ∧ 0 ≤ z ∧ z ≤ left ∧ Hid (∀ j l, j < k → ll[j]? = some l → l.length ≤ 1048576)) (fun _ i => n - (intOf i).toNat)
    case atStart => exact ⟨0, left - n, Nat.zero_le _, rfl, rfl, by omega, by omega, fun j nd hj => by omega⟩
    case round =>
      obtain ⟨k, z, hk, rfl, rfl, hz0, hz1, Hall⟩ := hrel
      by_cases hlt : k < n
      · obtain ⟨g, o, l, u, rfl, hgB, hx, c0, hf⟩ := h.at_ hlt
        have Hx := Lib.hid hx
        clear hx
        go_wp2_with fail
        refine (szIntS_any B0 u l z _ hf hz0 (by omega)).mono ?_
        rintro e w1 ⟨⟨y, rfl, hy1, hy2, hy3⟩, rfl⟩
        by_cases hy : 0 ≤ y
        · have h5 := hy3 hy
          have Hall2 : Hid (∀ j l, j < k + 1 → ll[j]? = some l → l.length ≤ 1048576) := by
            intro j nd' hj hx'
            by_cases hjk : j = k
            · subst hjk
              have e := Hx.out
              rw [hx'] at e
              cases e
              omega
            · exact Hall.out j nd' (by omega) hx'
          clear hy3 h5
          go_wp2_with fail
          go_round
          case rel => exact ⟨k + 1, y, by omega, by go_num, rfl, hy, by omega, Hall2⟩
          case measure => simp [intOf]; omega
        · clear hy3
          go_wp2_with fail
          go_ret
          exact ⟨⟨-1, rfl, by omega, by omega, fun h => by omega⟩, rfl⟩
      · obtain rfl : k = n := by omega
        have hfit : Hid (fitsL ll) := by
          refine ⟨by rw [← Hn.out]; omega, fun nd hm => ?_⟩
          obtain ⟨j, hj⟩ := List.mem_iff_getElem?.1 hm
          exact Hall.out j nd (by rw [Hn.out]; exact (List.getElem?_eq_some_iff.1 hj).1) hj
        go_wp2_with fail
        go_ret
        exact ⟨⟨z, rfl, by omega, by omega, fun _ => hfit.out⟩, rfl⟩
def ListsCopy (w : World) (ll : List (List Int)) (e : Ending) (w' : World) : Prop := ∃ v', e = .returned v' ∧ OwnLO w' w.heap.size v' ll ∧ w.grownBy w' none
set_option maxRecDepth 20000 in
theorem toIntSS_any (B0 : Nat) (v : Value) (ll : List (List Int)) (w : World) (h : ArgL B0 w v ll) (hB : B0 ≤ w.heap.size) (hl : fitsL ll) :
    Calls Tryz.prog 75 #[v] w (ListsCopy w ll) := by
  obtain ⟨A, n, c, rfl, h2, h3, h4⟩ := h.form
  have hn : n ≤ 1048576 := by have := hl.1; omega
  have Hl := Lib.hid hl
  have Hn := Lib.hid h3
  clear h3 hl
  obtain ⟨i0, hi, hz0, hz1, hz2⟩ := info_parts info25
  go_enter Tryz.func75, Tryz.ntmps75
  go_wp2_with (at_make; go_must (refine wpList_make_full _ rfl _ _ 24 rfl w.heap.size 25 i0 _ 1 Tryz.underlying24 hi hz0 hz1 _ _ _ _ n rfl rfl rfl rfl (by rw [hz2]; omega) (by unfold maxLen; omega) (Nat.le_refl _) ?_))
  intro w0 hown0 hg0
  have H0 : Hid (OwnLO w0 w.heap.size (.slice (some ⟨w.heap.size, 0, none⟩) n n) (ll.take 0 ++ List.replicate (n - 0) [])) := by
    have hO : OwnLO w0 w.heap.size (.slice (some ⟨w.heap.size, 0, none⟩) n n) (List.replicate n []) := by
      refine OwnLO.made ?_
      have e : n * 1 = n := Nat.mul_one n
      first | exact hown0 | (rw [e] at hown0; exact hown0) | (simp at hown0; exact hown0)
    exact hO
  clear hown0
  go_wp2_with fail
  go_loopw [4] (fun i wr => ∃ k : Nat, k ≤ n ∧ i = .int .i64 k ∧ Hid (OwnLO wr w.heap.size (.slice (some ⟨w.heap.size, 0, none⟩) n n) (ll.take k ++ List.replicate (n - k) [])) ∧ w.grownBy wr none) (fun i _ => n - (intOf i).toNat)
  case atStart => exact ⟨0, Nat.zero_le _, rfl, H0, hg0⟩
  case round =>
    clear H0 hg0
    obtain ⟨k, hk, rfl, Ho, hg⟩ := hrel
    by_cases hlt : k < n
    · have hw := h.new hg hB
      obtain ⟨g, o, l, u, rfl, hgB, hx, c0, hf⟩ := hw.at_ hlt
      have hsz := hg.size
      have hfr := Hl.out.2 l (List.mem_of_getElem? hx)
      have Hx := Lib.hid hx
      clear hx
      go_wp2_with fail
      refine (toIntS_any B0 u l wr hf (by omega) hfr).mono ?_
      rintro e w4 ⟨f', rfl, hf', hg4⟩
      have hlen : (ll.take k ++ List.replicate (n - k) ([] : List Int)).length = n := by rw [List.length_append, List.length_take, List.length_replicate, ← Hn.out]; omega
      have hD2 := Ho.out.set_ hg4 hsz (by rw [hlen]; exact hlt) hf'
      rw [take_set _ Hx.out Hn.out] at hD2
      obtain ⟨u0, d0, q0⟩ := (Ho.out.new hg4).cell (k := k) (by rw [hlen]; exact hlt)
      have hg5 : w.grownBy (w4.setCell ⟨w.heap.size, k, none⟩ f') none := gb_set (p := ⟨w.heap.size, k, none⟩) (gb_trans hg hg4) (.inl (Nat.le_refl _)) _
      obtain ⟨B1, m1, e1, rfl⟩ := hf'.ri.val
      have HD2 := Lib.hid hD2
      clear hlen Ho hg hD2 hf' hf hw
      go_wp2_with fail
      go_roundw
      case rel => exact ⟨k + 1, by omega, by go_num, HD2, hg5⟩
      case measure => simp [intOf]; omega
    · obtain rfl : k = n := by omega
      have Ho2 : OwnLO wr w.heap.size (.slice (some ⟨w.heap.size, 0, none⟩) k k) ll := by
        have := Ho.out
        rw [Nat.sub_self, List.take_of_length_le (by rw [← Hn.out]; omega)] at this
        simpa using this
      clear Ho
      go_wp2_with fail
      go_ret
      exact ⟨_, rfl, Ho2, hg⟩
set_option maxRecDepth 20000 in
theorem eqIntSS_any (v v' : Value) (ll : List (List Int)) (w : World) (h : RL w v ll) (h' : RL w v' ll) : Calls Tryz.prog 77 #[v, v'] w fun e w' => e = .returned (.bool true) ∧ w.grownBy w' none := by
  obtain ⟨A, n, c, rfl, h2, h3, h4⟩ := h.form'
  obtain ⟨A', n', c', rfl, h2', h3', h4'⟩ := h'.form'
  obtain rfl : n = n' := by omega
  clear h3 h3'
  go_enter Tryz.func77, Tryz.ntmps77
  go_wp2_with fail
  go_loopw [5] (fun i wr => ∃ k : Nat, k ≤ n ∧ i = .int .i64 k ∧ w.grownBy wr none) (fun i _ => n - (intOf i).toNat)
  case atStart => exact ⟨0, Nat.zero_le _, rfl, gb_refl _ _⟩
  case round =>
    obtain ⟨k, hk, rfl, hg⟩ := hrel
    have hw := h.new hg
    have hw' := h'.new hg
    by_cases hlt : k < n
    · obtain ⟨g, o, l, B1, m1, e1, rfl, hx, c0, hf, -, -, -⟩ := hw.at_ hlt
      obtain ⟨g', o', l', B2, m2, e2, rfl, hx', d0, hf', -, -, -⟩ := hw'.at_ hlt
      obtain rfl : l = l' := by rw [hx] at hx'; injection hx'
      clear hx hx'
      go_wp2_with fail
      go_region_held3 (fun w' => w'.cell? ⟨g, o + k, none⟩ = some (.slice B1 m1 e1) ∧ w'.cell? ⟨g', o' + k, none⟩ = some (.slice B2 m2 e2)) (go_keep)
        (first | (go_at_call 78; refine (eqIntS_any _ _ l _ (by exact hf) (by exact hf')).mono ?_; rintro e w' ⟨rfl, hg'⟩; have k0 := hg'.cell (by exact c0) (by simp); have l0 := hg'.cell (by exact d0) (by simp)))
      go_wp2_with fail
      go_roundw
      case rel => exact ⟨k + 1, by omega, by go_num, gb_trans (gb_drew hg) (by assumption)⟩
      case measure => simp [intOf]; omega
    · go_wp2_with fail
      go_ret
      exact ⟨rfl, hg⟩
end Go.Proofs.YtihobnheficpjaaGreatDoor
namespace Go.Proofs.YtihobnheficpjaaGreatDoor
open Go.RowKit

/-- The first k of a slice of integers. -/
theorem RI.take {w : World} {A : Option Addr} {n c k : Nat} {l : List Int} (h : RI w (.slice A n c) l) (hk : k ≤ n) : RI w (.slice A k c) (l.take k) := by
  obtain ⟨h0, A', c', e, h2, h3, h4, h5⟩ := h
  injection e with e1 e2 e3
  subst e1 e3
  have hl : l.length = n := e2.symm
  refine ⟨?_, A, c, ?_, by rw [List.length_take]; omega, h3, h4, ?_⟩
  · rw [List.length_map, List.length_take]; omega
  · rw [List.length_take, Nat.min_eq_left (by omega)]
  · rcases h5 with h5 | ⟨g, o, cur, hA, hb, hc⟩
    · exact .inl (by rw [List.length_take]; omega)
    · refine .inr ⟨g, o, cur, hA, hb, fun j u hu => hc j u ?_⟩
      rw [List.getElem?_map, List.getElem?_take] at hu
      split at hu
      · rw [List.getElem?_map]; exact hu
      · cases hu
theorem cell_lt {w : World} {a : Addr} {v : Value} (h : w.cell? a = some v) : a.block < w.heap.size := by
  unfold World.cell? at h
  split at h
  · rename_i hb; exact (Array.getElem?_eq_some_iff.1 hb).1
  · cases h
theorem cell_new {w w' : World} {a : Addr} {v : Value} (h : w.cell? a = some v) (hg : w.grownBy w' none) : w'.cell? a = some v := (gb_cell hg (cell_lt h) (by simp)).trans h
/-- A list of rows of the call's own stands where another block turns. -/
theorem OwnL.far {w w' : World} {base g : Nat} {v : Value} {ll : List (List Int)} (h : OwnL w base v ll) (hg : w.grownBy w' (some g)) (hi : NotE w 3 (some g)) (hne : v.ownBlock ≠ some g) : OwnL w' base v ll := by
  obtain ⟨xs, h1, h2⟩ := h
  have hlt := World.ownsRow.lt h1
  refine ⟨xs, ⟨h1.1, ?_⟩, fun i l hl => let ⟨u, k1, k2⟩ := h2 i l hl; ⟨u, k1, k2.grown hg hi⟩⟩
  rcases h1.2 with h0 | ⟨g', cap, cur, rfl, k2, k3, k4⟩
  · exact .inl h0
  · exact .inr ⟨g', cap, cur, rfl, k2, (hg.block g' (hlt g' rfl).2 (fun e => hne (by rw [← e]; rfl))).trans k3, k4⟩
/-- A crew by value. -/
def CV (w : World) (v : Value) (c : Crew) : Prop := ∃ d k o r, v = .agg #[d, k, o, r] ∧ RL w d c.deques ∧ RI w k c.counts ∧ RI w o c.done ∧ RL w r c.rows
theorem CV.grown {w w' : World} {v : Value} {c : Crew} {row : Option Nat} (h : CV w v c) (hg : w.grownBy w' row) (hr : NotE w 3 row) (hr' : NotE w 25 row) : CV w' v c := by
  obtain ⟨d, k, o, r, rfl, h1, h2, h3, h4⟩ := h
  exact ⟨d, k, o, r, rfl, h1.grown hg hr hr', h2.grown hg hr, h3.grown hg hr, h4.grown hg hr hr'⟩
theorem CV.new {w w' : World} {v : Value} {c : Crew} (h : CV w v c) (hg : w.grownBy w' none) : CV w' v c := h.grown hg (NotE.none _ _) (NotE.none _ _)
/-- The parts of a crew, each a slice. -/
theorem CV.form {w : World} {v : Value} {c : Crew} (h : CV w v c) : ∃ A1 n1 c1 A2 n2 c2 A3 n3 c3 A4 n4 c4, v = .agg #[.slice A1 n1 c1, .slice A2 n2 c2, .slice A3 n3 c3, .slice A4 n4 c4] ∧
    RL w (.slice A1 n1 c1) c.deques ∧ RI w (.slice A2 n2 c2) c.counts ∧ RI w (.slice A3 n3 c3) c.done ∧ RL w (.slice A4 n4 c4) c.rows := by
  obtain ⟨d, k, o, r, rfl, h1, h2, h3, h4⟩ := h
  obtain ⟨A1, n1, c1, rfl⟩ := h1.val
  obtain ⟨A2, n2, c2, rfl⟩ := h2.val
  obtain ⟨A3, n3, c3, rfl⟩ := h3.val
  obtain ⟨A4, n4, c4, rfl⟩ := h4.val
  exact ⟨_, _, _, _, _, _, _, _, _, _, _, _, rfl, h1, h2, h3, h4⟩
/-- A crew that stands in block g. -/
structure BoxC (w : World) (g : Nat) (d k o r : Value) (c : Crew) : Prop where
  b : Blk w g 27 #[d, k, o, r]
  dq : RL w d c.deques
  ct : RI w k c.counts
  dn : RI w o c.done
  ro : RL w r c.rows
section
variable {w w' : World} {g : Nat} {d k o r : Value} {c : Crew}
theorem BoxC.new (h : BoxC w g d k o r c) (hg : w.grownBy w' none) : BoxC w' g d k o r c := ⟨h.b.grown hg (by simp), h.dq.new hg, h.ct.new hg, h.dn.new hg, h.ro.new hg⟩
theorem BoxC.cv (h : BoxC w g d k o r c) : CV w (.agg #[d, k, o, r]) c := ⟨d, k, o, r, rfl, h.dq, h.ct, h.dn, h.ro⟩
theorem BoxC.d0 (h : BoxC w g d k o r c) : w.cell? ⟨g, 0, none⟩ = some d := h.b.cell 0
theorem BoxC.d1 (h : BoxC w g d k o r c) : w.cell? ⟨g, 1, none⟩ = some k := h.b.cell 1
theorem BoxC.d2 (h : BoxC w g d k o r c) : w.cell? ⟨g, 2, none⟩ = some o := h.b.cell 2
theorem BoxC.d3 (h : BoxC w g d k o r c) : w.cell? ⟨g, 3, none⟩ = some r := h.b.cell 3
theorem CV.box {w : World} {d k o r : Value} {c : Crew} (h : CV w (.agg #[d, k, o, r]) c) : BoxC (w.alloc (.cells #[d, k, o, r] 27)) w.heap.size d k o r c := by
  obtain ⟨d', k', o', r', e, h1, h2, h3, h4⟩ := h
  have hg := World.grownBy_alloc w (.cells #[d, k, o, r] 27) none
  injection e with e
  injection e with e
  injection e with e1 e
  injection e with e2 e
  injection e with e3 e
  injection e with e4 e
  subst e1 e2 e3 e4
  exact ⟨Blk.new _ _ _, h1.new hg, h2.new hg, h3.new hg, h4.new hg⟩
end
def crew0 : Crew := ⟨[], [], [], []⟩
theorem CV.zero (w : World) : CV w (.agg #[.slice none 0 0, .slice none 0 0, .slice none 0 0, .slice none 0 0]) crew0 := ⟨_, _, _, _, rfl, RL.nil w, RI.nil w, RI.nil w, RL.nil w⟩
/-- A crew of the call's own: its rows and deques lie in blocks apart. -/
def OwnC (w : World) (base : Nat) (v : Value) (c : Crew) : Prop :=
  ∃ d k o r xs ys, v = .agg #[d, k, o, r] ∧ LX w base d c.deques xs ∧ RI w k c.counts ∧ OwnI w base o c.done ∧ LX w base r c.rows ys ∧ Apart (o :: (xs ++ ys)) ∧ (∀ g, d.ownBlock = some g → r.ownBlock ≠ some g)
theorem OwnC.cv {w : World} {base : Nat} {v : Value} {c : Crew} (h : OwnC w base v c) : CV w v c := by
  obtain ⟨d, k, o, r, xs, ys, rfl, h1, h2, h3, h4, _⟩ := h
  exact ⟨d, k, o, r, rfl, h1.rl, h2, h3.ri, h4.rl⟩
theorem OwnC.new {w w' : World} {base : Nat} {v : Value} {c : Crew} (h : OwnC w base v c) (hg : w.grownBy w' none) : OwnC w' base v c := by
  obtain ⟨d, k, o, r, xs, ys, rfl, h1, h2, h3, h4, h5⟩ := h
  exact ⟨d, k, o, r, xs, ys, rfl, h1.new hg, h2.new hg, h3.new hg, h4.new hg, h5⟩
theorem OwnC.grown {w w' : World} {base : Nat} {v : Value} {c : Crew} {row : Option Nat} (h : OwnC w base v c) (hg : w.grownBy w' row) (hr : NotE w 3 row) (hr' : NotE w 25 row) : OwnC w' base v c := by
  obtain ⟨d, k, o, r, xs, ys, rfl, h1, h2, h3, h4, h5⟩ := h
  exact ⟨d, k, o, r, xs, ys, rfl, h1.grown hg hr hr', h2.grown hg hr, h3.grown hg hr, h4.grown hg hr hr', h5⟩
theorem OwnC.low {w : World} {a b : Nat} {v : Value} {c : Crew} (h : OwnC w a v c) (hab : b ≤ a) : OwnC w b v c := by
  obtain ⟨d, k, o, r, xs, ys, rfl, h1, h2, h3, h4, h5⟩ := h
  exact ⟨d, k, o, r, xs, ys, rfl, h1.low hab, h2, h3.lower hab, h4.low hab, h5⟩
/-- A list of rows stands where another block of rows turns. -/
theorem LX.far {w w' : World} {base g : Nat} {v : Value} {ll : List (List Int)} {xs : List Value} (h : LX w base v ll xs) (hg : w.grownBy w' (some g)) (hi : NotE w 3 (some g)) (hne : v.ownBlock ≠ some g) : LX w' base v ll xs := by
  obtain ⟨h1, h2⟩ := h
  have hlt := World.ownsRow.lt h1
  refine ⟨⟨h1.1, ?_⟩, fun i l hl => let ⟨u, k1, k2⟩ := h2 i l hl; ⟨u, k1, k2.grown hg hi⟩⟩
  rcases h1.2 with h0 | ⟨g', cap, cur, rfl, k2, k3, k4⟩
  · exact .inl h0
  · exact .inr ⟨g', cap, cur, rfl, k2, (hg.block g' (hlt g' rfl).2 (fun e => hne (by rw [← e]; rfl))).trans k3, k4⟩
theorem LX.notE {w : World} {base : Nat} {v : Value} {ll : List (List Int)} {xs : List Value} (h : LX w base v ll xs) {E : TypeId} (hE : E ≠ 25) : NotE w E v.ownBlock := NotE.own h.1 hE
theorem LX.gb {a w w' : World} {row : Option Nat} {base : Nat} {v : Value} {ll : List (List Int)} {xs : List Value} (h : LX w base v ll xs) (hg : a.grownBy w row) (k : w.grownBy w' v.ownBlock) (hb : a.heap.size ≤ base) : a.grownBy w' row :=
  gb_new hg k (fun g e => .inl (Nat.le_trans hb (h.lt g e).1))
/-! The spec's small walks. -/
theorem l3Has_b (v : Value) (l : List Int) (x : Int) (w : World) (h : RI w v l) {b : Bool} (hb : decide (x ∈ l) = b) :
    Calls Tryz.prog 102 #[v, .int .i64 x] w fun e w' => e = .returned (.bool b) ∧ w = w' := by
  obtain ⟨A, n, c, rfl, _, hn⟩ := h.form'
  have hle := h.le
  rw [← hn] at hle
  have Hn := Lib.hid hn
  have Hb := Lib.hid hb
  clear hn hb
  go_enter Tryz.func102, Tryz.ntmps102
  go_wp2_with fail
  go_loopg [5] (n + 1) (fun mm i wr => ∃ k : Nat, k ≤ n ∧ mm = n + 1 - k ∧ i = .int .i64 k ∧ Hid (x ∉ l.take k) ∧ wr = w)
  case atStart => exact ⟨0, Nat.zero_le _, rfl, rfl, by show _ ∉ _; simp, rfl⟩
  case round =>
    obtain ⟨k, hk, rfl, rfl, Hk, rfl⟩ := hrel
    by_cases hlt : k < n
    · obtain ⟨g, o, y, rfl, hy, c0⟩ := h.at_ hlt
      have Hy := Lib.hid hy
      clear hy
      by_cases hyx : y = x
      · have hq : (y == x) = true := by simpa using hyx
        have Hr : Hid (b = true) := by
          show _ = _
          rw [← Hb.out, decide_eq_true_eq, ← hyx]
          exact List.mem_of_getElem? Hy.out
        clear hyx Hk
        go_wp2_with fail
        go_ret
        exact ⟨by rw [Hr.out]; rfl, rfl⟩
      · have hq : (y == x) = false := by simpa using hyx
        have Hs : Hid (x ∉ l.take (k + 1)) := by
          show _ ∉ _
          obtain ⟨h1, h2⟩ := List.getElem?_eq_some_iff.1 Hy.out
          rw [List.take_succ_eq_append_getElem h1, h2, List.mem_append]
          rintro (h3 | h3)
          · exact Hk.out h3
          · exact hyx (List.mem_singleton.1 h3).symm
        clear hyx Hk
        go_wp2_with fail
        go_roundg (n + 1 - (k + 1))
        case measure => omega
        case rel => exact ⟨k + 1, by omega, rfl, by go_num, Hs, rfl⟩
    · obtain rfl : k = n := by omega
      have Hr : Hid (b = false) := by
        show _ = _
        rw [← Hb.out, decide_eq_false_iff_not]
        have := Hk.out
        rwa [List.take_of_length_le (by rw [← Hn.out]; exact Nat.le_refl _)] at this
      clear Hk
      go_wp2_with fail
      go_ret
      exact ⟨by rw [Hr.out]; rfl, rfl⟩
theorem l5All_b (v v' : Value) (l m : List Int) (w : World) (h : RI w v l) (h' : RI w v' m) {b : Bool} (hb : (m.all fun f => decide (f ∈ l)) = b) :
    Calls Tryz.prog 128 #[v, v'] w fun e w' => e = .returned (.bool b) ∧ w = w' := by
  obtain ⟨A, n, c, rfl, _, hn⟩ := h'.form'
  obtain ⟨B, n', c', rfl⟩ := h.val
  have hle := h'.le
  rw [← hn] at hle
  have Hn := Lib.hid hn
  have Hb := Lib.hid hb
  clear hn hb
  go_enter Tryz.func128, Tryz.ntmps128
  go_wp2_with fail
  go_loopg [5] (n + 1) (fun mm i wr => ∃ k : Nat, k ≤ n ∧ mm = n + 1 - k ∧ i = .int .i64 k ∧ Hid (∀ f ∈ m.take k, f ∈ l) ∧ wr = w)
  case atStart => exact ⟨0, Nat.zero_le _, rfl, rfl, by show ∀ f ∈ _, _; simp, rfl⟩
  case round =>
    obtain ⟨k, hk, rfl, rfl, Hk, rfl⟩ := hrel
    by_cases hlt : k < n
    · obtain ⟨g, o, y, rfl, hy, c0⟩ := h'.at_ hlt
      have Hy := Lib.hid hy
      clear hy
      by_cases hyx : y ∈ l
      · have Hyx : Hid (decide (y ∈ l) = true) := decide_eq_true hyx
        have Hs : Hid (∀ f ∈ m.take (k + 1), f ∈ l) := by
          show ∀ f ∈ _, _
          obtain ⟨h1, h2⟩ := List.getElem?_eq_some_iff.1 Hy.out
          rw [List.take_succ_eq_append_getElem h1, h2]
          intro f hf
          rcases List.mem_append.1 hf with hf | hf
          · exact Hk.out f hf
          · obtain rfl : f = y := by simpa using hf
            exact hyx
        clear hyx Hk
        go_wp2_with fail
        refine (l3Has_b _ l y _ h Hyx.out).mono ?_
        rintro e w' ⟨rfl, rfl⟩
        go_wp2_with fail
        go_roundg (n + 1 - (k + 1))
        case measure => omega
        case rel => exact ⟨k + 1, by omega, rfl, by go_num, Hs, rfl⟩
      · have Hyx : Hid (decide (y ∈ l) = false) := decide_eq_false hyx
        have Hr : Hid (b = false) := by
          show _ = _
          rw [← Hb.out, List.all_eq_false]
          exact ⟨y, List.mem_of_getElem? Hy.out, by simpa using hyx⟩
        clear hyx Hk
        go_wp2_with fail
        refine (l3Has_b _ l y _ h Hyx.out).mono ?_
        rintro e w' ⟨rfl, rfl⟩
        go_wp2_with fail
        go_ret
        exact ⟨by rw [Hr.out]; rfl, rfl⟩
    · obtain rfl : k = n := by omega
      have Hr : Hid (b = true) := by
        show _ = _
        rw [← Hb.out, List.all_eq_true]
        have := Hk.out
        rw [List.take_of_length_le (by rw [← Hn.out]; exact Nat.le_refl _)] at this
        exact fun f hf => decide_eq_true (this f hf)
      clear Hk
      go_wp2_with fail
      go_ret
      exact ⟨by rw [Hr.out]; rfl, rfl⟩
end Go.Proofs.YtihobnheficpjaaGreatDoor
