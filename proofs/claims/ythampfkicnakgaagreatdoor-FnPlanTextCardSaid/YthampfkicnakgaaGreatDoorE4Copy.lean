/- Walks: the laws' copies of plans: toNode, toNodeS. -/
import Derived.Test.YthampfkicnakgaaGreatDoorE3Nodes
namespace Go.Proofs.YthampfkicnakgaaGreatDoor
open Go.RowKit

/-- Under way: the argument's block, the result's, the copy's. -/
structure TMid (w wx : World) (kind : Int) (f r : Value) (k' : Int) (f' r' : Value) : Prop where
  s : Blk wx w.heap.size 77 #[.int .i64 kind, f, r]
  res : Blk wx (w.heap.size + 1) 66 #[.int .i64 0, .slice none 0 0, .slice none 0 0]
  o : Blk wx (w.heap.size + 1 + 1) 66 #[.int .i64 k', f', r']
  g : w.grownBy wx none
theorem TMid.new (w : World) (kind : Int) (f r : Value) : TMid w (((w.alloc (.cells #[.int .i64 kind, f, r] 77)).alloc (.cells #[.int .i64 0, .slice none 0 0, .slice none 0 0] 66)).alloc (.cells #[.int .i64 kind, .slice none 0 0, .slice none 0 0] 66)) kind f r kind (.slice none 0 0) (.slice none 0 0) := by
  refine ⟨((Blk.new w _ _).alloc _).alloc _, ?_, ?_, gb_alloc (gb_alloc (gb_alloc (gb_refl w none) _) _) _⟩
  · have := (Blk.new (w.alloc (.cells #[.int .i64 kind, f, r] 77)) 66 #[.int .i64 0, .slice none 0 0, .slice none 0 0]).alloc (.cells #[.int .i64 kind, .slice none 0 0, .slice none 0 0] 66)
    rw [World.size_alloc] at this
    exact this
  · have := Blk.new ((w.alloc (.cells #[.int .i64 kind, f, r] 77)).alloc (.cells #[.int .i64 0, .slice none 0 0, .slice none 0 0] 66)) 66 #[.int .i64 kind, .slice none 0 0, .slice none 0 0]
    rw [World.size_alloc, World.size_alloc] at this
    exact this
theorem TMid.call {w wx wy : World} {kind k' : Int} {f r f' r' : Value} (M : TMid w wx kind f r k' f' r') (hg : wx.grownBy wy none) : TMid w wy kind f r k' f' r' :=
  ⟨M.s.grown hg (by simp), M.res.grown hg (by simp), M.o.grown hg (by simp), gb_trans M.g hg⟩
theorem TMid.store {w wx : World} {kind k' k2 : Int} {f r f' r' f2 r2 : Value} (M : TMid w wx kind f r k' f' r') (j : Nat) (u : Value) (hc : #[.int .i64 k', f', r'].setIfInBounds j u = #[.int .i64 k2, f2, r2]) :
    TMid w (wx.setCell ⟨w.heap.size + 1 + 1, j, none⟩ u) kind f r k2 f2 r2 :=
  ⟨M.s.far (by show w.heap.size ≠ w.heap.size + 1 + 1; omega) u, M.res.far (by show w.heap.size + 1 ≠ w.heap.size + 1 + 1; omega) u, hc ▸ M.o.set_ j u, gb_set (p := ⟨w.heap.size + 1 + 1, j, none⟩) M.g (.inl (by show w.heap.size ≤ w.heap.size + 1 + 1; omega)) u⟩
def NodeCopy (w : World) (nd : Node) (e : Ending) (w' : World) : Prop := ∃ f r, e = .returned (.agg #[.int .i64 nd.kind, f, r]) ∧ OwnI w' w.heap.size f nd.frm ∧ OwnI w' w.heap.size r nd.row ∧ w.grownBy w' none

theorem OwnI.lower {w : World} {a b : Nat} {v : Value} {l : List Int} (h : OwnI w a v l) (hab : b ≤ a) : OwnI w b v l := by
  refine ⟨h.1, ?_⟩
  rcases h.2 with h0 | ⟨g, cap, cur, h1, h2, h3⟩
  · exact .inl h0
  · exact .inr ⟨g, cap, cur, h1, Nat.le_trans hab h2, h3⟩
theorem OwnI.keep {w w' : World} {b g : Nat} {E : TypeId} {cs : Array Value} {v : Value} {l : List Int} (h : OwnI w b v l) (hg : w.grownBy w' (some g)) (hb : Blk w g E cs) (hE : 3 ≠ E) : OwnI w' b v l := h.grown hg (NotE.blk hb hE)

set_option maxRecDepth 20000 in
theorem toNode_any (B0 : Nat) (f r : Value) (nd : Node) (w : World) (hf : ArgI B0 w f nd.frm) (hr : ArgI B0 w r nd.row) (hB : B0 ≤ w.heap.size) (hl1 : nd.frm.length ≤ 1048576) (hl2 : nd.row.length ≤ 1048576) :
    Calls Tryz.prog 46 #[.agg #[.int .i64 nd.kind, f, r]] w (NodeCopy w nd) := by
  obtain ⟨A1, n1, c1, rfl, -, -, -⟩ := hf.form
  obtain ⟨A2, n2, c2, rfl, -, -, -⟩ := hr.form
  have M1 := TMid.new w nd.kind (.slice A1 n1 c1) (.slice A2 n2 c2)
  go_enter Tryz.func46, Tryz.ntmps46
  go_wp2_with fail
  generalize (((w.alloc (.cells #[.int .i64 nd.kind, .slice A1 n1 c1, .slice A2 n2 c2] 77)).alloc (.cells #[.int .i64 0, .slice none 0 0, .slice none 0 0] 66)).alloc (.cells #[.int .i64 nd.kind, .slice none 0 0, .slice none 0 0] 66)) = X at *
  have hs1 := M1.g.size
  refine (toIntS_any B0 _ nd.frm X (hf.new M1.g hB) (by omega) hl1).mono ?_
  rintro e w1 ⟨v1, rfl, ho1, hg1⟩
  have M2 := M1.call hg1
  obtain ⟨B1, m1, e1, rfl⟩ := ho1.ri.val
  have o1 := ho1.lower (b := w.heap.size) hs1
  have k1 := M2.o.cell 1
  have f1 := M2.o.frozen 1
  have M3 := M2.store (k2 := nd.kind) (f2 := .slice B1 m1 e1) (r2 := .slice none 0 0) 1 (.slice B1 m1 e1) rfl
  have o3 := o1.keep (gb_set (p := ⟨w.heap.size + 1 + 1, 1, none⟩) (gb_refl w1 (some (w.heap.size + 1 + 1))) (.inr rfl) (.slice B1 m1 e1)) M2.o (by decide)
  have d2 := M3.s.cell 2
  have hs3 := M3.g.size
  clear ho1 o1 M1
  go_wp2_with fail
  generalize w1.setCell ⟨w.heap.size + 1 + 1, 1, none⟩ (.slice B1 m1 e1) = Y at *
  refine (toIntS_any B0 _ nd.row Y (hr.new M3.g hB) (by omega) hl2).mono ?_
  rintro e w4 ⟨v4, rfl, ho4, hg4⟩
  have M4 := M3.call hg4
  obtain ⟨B4, m4, e4, rfl⟩ := ho4.ri.val
  have o4 := ho4.lower (b := w.heap.size) hs3
  have o5 := o3.new hg4
  have M5 := M4.store (k2 := nd.kind) (f2 := .slice B1 m1 e1) (r2 := .slice B4 m4 e4) 2 (.slice B4 m4 e4) rfl
  have hgs := gb_set (p := ⟨w.heap.size + 1 + 1, 2, none⟩) (gb_refl w4 (some (w.heap.size + 1 + 1))) (.inr rfl) (.slice B4 m4 e4)
  have o6 := o4.keep hgs M4.o (by decide)
  have o7 := o5.keep hgs M4.o (by decide)
  have k2 := M4.o.cell 2
  have f2 := M4.o.frozen 2
  have k50 := M5.o.cell 0
  have k51 := M5.o.cell 1
  have k52 := M5.o.cell 2
  have r50 := M5.res.cell 0
  have r51 := M5.res.cell 1
  have r52 := M5.res.cell 2
  have q50 := M5.res.frozen 0
  have q51 := M5.res.frozen 1
  have q52 := M5.res.frozen 2
  go_wp2_with fail
  generalize w4.setCell ⟨w.heap.size + 1 + 1, 2, none⟩ (.slice B4 m4 e4) = Z at *
  refine bodyPost_ret (v := .agg #[.int .i64 nd.kind, .slice B1 m1 e1, .slice B4 m4 e4]) (by simp [results, Tryz.results46, go_sem, r50, r51, r52]) rfl ?_
  have hst := gb_set3 Z (w.heap.size + 1) (.int .i64 nd.kind) (.slice B1 m1 e1) (.slice B4 m4 e4)
  exact ⟨_, _, rfl, o7.keep hst M5.res (by decide), o6.keep hst M5.res (by decide), gb_new M5.g hst (fun g e => by cases e; exact .inl (by omega))⟩

def PlanCopy (w : World) (plan : List Node) (e : Ending) (w' : World) : Prop := ∃ v', e = .returned v' ∧ DN w' w.heap.size v' plan ∧ w.grownBy w' none
set_option maxRecDepth 20000 in
theorem toNodeS_any (B0 : Nat) (v : Value) (plan : List Node) (w : World) (h : ArgN B0 w v plan) (hB : B0 ≤ w.heap.size) (hl : fitsN plan) :
    Calls Tryz.prog 18 #[v] w (PlanCopy w plan) := by
  obtain ⟨A, n, c, rfl, h2, h3, h4⟩ := h.form
  have hn : n ≤ 1048576 := by have := hl.1; omega
  have Hl := Lib.hid hl
  have Hn := Lib.hid h3
  clear h3 hl
  obtain ⟨i0, hi, hz0, hz1, hz2⟩ := info_parts info66
  go_enter Tryz.func18, Tryz.ntmps18
  go_wp2_with (at_make; go_must (refine wpList_make_full _ rfl _ _ 31 rfl w.heap.size 66 i0 _ 3 Tryz.underlying31 hi hz0 hz1 _ _ _ _ n rfl rfl rfl rfl (by rw [hz2]; omega) (by unfold maxLen; omega) (Nat.le_refl _) ?_))
  intro w0 hown0 hg0
  have H0 : Hid (DN w0 w.heap.size (.slice (some ⟨w.heap.size, 0, none⟩) n n) (plan.take 0 ++ List.replicate (n - 0) ⟨0, [], []⟩)) := by
    show DN w0 w.heap.size (.slice (some ⟨w.heap.size, 0, none⟩) n n) (plan.take 0 ++ List.replicate (n - 0) ⟨0, [], []⟩)
    exact DN.made hown0
  clear hown0
  go_wp2_with fail
  go_loopw [4] (fun i wr => ∃ k : Nat, k ≤ n ∧ i = .int .i64 k ∧ Hid (DN wr w.heap.size (.slice (some ⟨w.heap.size, 0, none⟩) n n) (plan.take k ++ List.replicate (n - k) ⟨0, [], []⟩)) ∧ w.grownBy wr none) (fun i _ => n - (intOf i).toNat)
  case atStart => exact ⟨0, Nat.zero_le _, rfl, H0, hg0⟩
  case round =>
    clear H0 hg0
    obtain ⟨k, hk, rfl, Ho, hg⟩ := hrel
    by_cases hlt : k < n
    · have hw := h.new hg hB
      obtain ⟨g, o, nd, f, r, rfl, hgB, hx, c0, c1, c2, hf, hr⟩ := hw.at_ hlt
      have hsz := hg.size
      have hfr := Hl.out.2 nd (List.mem_of_getElem? hx)
      have Hx := Lib.hid hx
      clear hx
      go_wp2_with fail
      refine (toNode_any B0 f r nd wr hf hr (by omega) hfr.1 hfr.2).mono ?_
      rintro e w4 ⟨f', r', rfl, hf', hr', hg4⟩
      have hD := Ho.out.new hg4
      have hlen : (plan.take k ++ List.replicate (n - k) (⟨0, [], []⟩ : Node)).length = n := by rw [List.length_append, List.length_take, List.length_replicate, ← Hn.out]; omega
      have hD2 := hD.set_ hlen hlt (hf'.lower (b := w.heap.size) hsz) (hr'.lower (b := w.heap.size) hsz)
      rw [take_set _ Hx.out Hn.out] at hD2
      obtain ⟨g', cap', cur, he, _, _, hb, hcs⟩ := hD.own.form hlen (by omega)
      obtain rfl : w.heap.size = g' := slice_block he
      obtain ⟨u0, d0⟩ := hcs (k * 3) (by omega)
      obtain ⟨u1, d1⟩ := hcs (k * 3 + 1) (by omega)
      obtain ⟨u2, d2⟩ := hcs (k * 3 + 2) (by omega)
      have q0 := hb.frozen (k * 3)
      have q1 := hb.frozen (k * 3 + 1)
      have q2 := hb.frozen (k * 3 + 2)
      have hg5 : w.grownBy (((w4.setCell ⟨w.heap.size, k * 3, none⟩ (.int .i64 nd.kind)).setCell ⟨w.heap.size, k * 3 + 1, none⟩ f').setCell ⟨w.heap.size, k * 3 + 2, none⟩ r') none :=
        gb_set (p := ⟨w.heap.size, k * 3 + 2, none⟩) (gb_set (p := ⟨w.heap.size, k * 3 + 1, none⟩) (gb_set (p := ⟨w.heap.size, k * 3, none⟩) (gb_trans hg hg4) (.inl (Nat.le_refl _)) _) (.inl (Nat.le_refl _)) _) (.inl (Nat.le_refl _)) _
      obtain ⟨B1, m1, e1, rfl⟩ := hf'.ri.val
      obtain ⟨B4, m4, e4, rfl⟩ := hr'.ri.val
      have HD2 := Lib.hid hD2
      clear hlen he hb hcs Ho hg hD hD2 hf' hr' hf hr hw
      go_wp2_with fail
      go_roundw
      case rel => exact ⟨k + 1, by omega, by go_num, HD2, hg5⟩
      case measure => simp [intOf]; omega
    · obtain rfl : k = n := by omega
      have Ho2 : DN wr w.heap.size (.slice (some ⟨w.heap.size, 0, none⟩) k k) plan := by
        have := Ho.out
        rw [Nat.sub_self, List.take_of_length_le (by rw [← Hn.out]; omega)] at this
        simpa using this
      clear Ho
      go_wp2_with fail
      go_ret
      exact ⟨_, rfl, Ho2, hg⟩
end Go.Proofs.YthampfkicnakgaaGreatDoor
