/- Walks: the laws' copies of plans: toNode, toNodeS. -/
import Derived.Test.YthampfkicnakgaaDoorE3Nodes
namespace Go.Proofs.YthampfkicnakgaaDoor
open Go.RowKit

/-- Under way: the argument's block, the result's, the copy's. -/
structure TMid (w wx : World) (kind : Int) (f r : Value) (k' : Int) (f' r' : Value) : Prop where
  s : Blk wx w.heap.size 34 #[.int .i64 kind, f, r]
  res : Blk wx (w.heap.size + 1) 31 #[.int .i64 0, .slice none 0 0, .slice none 0 0]
  o : Blk wx (w.heap.size + 1 + 1) 31 #[.int .i64 k', f', r']
  g : w.grownBy wx none
theorem TMid.new (w : World) (kind : Int) (f r : Value) : TMid w (((w.alloc (.cells #[.int .i64 kind, f, r] 34)).alloc (.cells #[.int .i64 0, .slice none 0 0, .slice none 0 0] 31)).alloc (.cells #[.int .i64 kind, .slice none 0 0, .slice none 0 0] 31)) kind f r kind (.slice none 0 0) (.slice none 0 0) := by
  refine ⟨((Blk.new w _ _).alloc _).alloc _, ?_, ?_, gb_alloc (gb_alloc (gb_alloc (gb_refl w none) _) _) _⟩
  · have := (Blk.new (w.alloc (.cells #[.int .i64 kind, f, r] 34)) 31 #[.int .i64 0, .slice none 0 0, .slice none 0 0]).alloc (.cells #[.int .i64 kind, .slice none 0 0, .slice none 0 0] 31)
    rw [World.size_alloc] at this
    exact this
  · have := Blk.new ((w.alloc (.cells #[.int .i64 kind, f, r] 34)).alloc (.cells #[.int .i64 0, .slice none 0 0, .slice none 0 0] 31)) 31 #[.int .i64 kind, .slice none 0 0, .slice none 0 0]
    rw [World.size_alloc, World.size_alloc] at this
    exact this
theorem TMid.call {w wx wy : World} {kind k' : Int} {f r f' r' : Value} (M : TMid w wx kind f r k' f' r') (hg : wx.grownBy wy none) : TMid w wy kind f r k' f' r' :=
  ⟨M.s.grown hg (by simp), M.res.grown hg (by simp), M.o.grown hg (by simp), gb_trans M.g hg⟩
theorem TMid.store {w wx : World} {kind k' k2 : Int} {f r f' r' f2 r2 : Value} (M : TMid w wx kind f r k' f' r') (j : Nat) (u : Value) (hc : #[.int .i64 k', f', r'].setIfInBounds j u = #[.int .i64 k2, f2, r2]) :
    TMid w (wx.setCell ⟨w.heap.size + 1 + 1, j, none⟩ u) kind f r k2 f2 r2 :=
  ⟨M.s.far (by show w.heap.size ≠ w.heap.size + 1 + 1; omega) u, M.res.far (by show w.heap.size + 1 ≠ w.heap.size + 1 + 1; omega) u, hc ▸ M.o.set_ j u, gb_set (p := ⟨w.heap.size + 1 + 1, j, none⟩) M.g (.inl (by show w.heap.size ≤ w.heap.size + 1 + 1; omega)) u⟩
def NodeCopy (w : World) (nd : Node) (e : Ending) (w' : World) : Prop := ∃ f r, e = .returned (.agg #[.int .i64 nd.kind, f, r]) ∧ OwnI w' w.heap.size f nd.frm ∧ OwnI w' w.heap.size r nd.row ∧ w.grownBy w' none

theorem OwnI.lower {w : World} {a b : Nat} {v : Value} {l : List Int} (h : OwnI w a v l) (hab : b ≤ a) : OwnI w b v l := by
  refine ⟨h.1, ?_⟩
  rcases h.2 with h0 | ⟨g, cap, cur, h1, h2, h3⟩
  · exact .inl h0
  · exact .inr ⟨g, cap, cur, h1, Nat.le_trans hab h2, h3⟩
theorem OwnI.keep {w w' : World} {b g : Nat} {E : TypeId} {cs : Array Value} {v : Value} {l : List Int} (h : OwnI w b v l) (hg : w.grownBy w' (some g)) (hb : Blk w g E cs) (hE : 3 ≠ E) : OwnI w' b v l := h.grown hg (NotE.blk hb hE)

set_option maxRecDepth 20000 in
theorem toNode_any (B0 : Nat) (f r : Value) (nd : Node) (w : World) (hf : ArgI B0 w f nd.frm) (hr : ArgI B0 w r nd.row) (hB : B0 ≤ w.heap.size) (hl1 : nd.frm.length ≤ 1048576) (hl2 : nd.row.length ≤ 1048576) :
    Calls Tryd.prog 20 #[.agg #[.int .i64 nd.kind, f, r]] w (NodeCopy w nd) := by
  obtain ⟨A1, n1, c1, rfl, -, -, -⟩ := hf.form
  obtain ⟨A2, n2, c2, rfl, -, -, -⟩ := hr.form
  have M1 := TMid.new w nd.kind (.slice A1 n1 c1) (.slice A2 n2 c2)
  go_enter Tryd.func20, Tryd.ntmps20
  go_wp2_with fail
  generalize (((w.alloc (.cells #[.int .i64 nd.kind, .slice A1 n1 c1, .slice A2 n2 c2] 34)).alloc (.cells #[.int .i64 0, .slice none 0 0, .slice none 0 0] 31)).alloc (.cells #[.int .i64 nd.kind, .slice none 0 0, .slice none 0 0] 31)) = X at *
  have hs1 := M1.g.size
  refine (toIntS_any B0 _ nd.frm X (hf.new M1.g hB) (by omega) hl1).mono ?_
  rintro e w1 ⟨v1, rfl, ho1, hg1⟩
  have M2 := M1.call hg1
  obtain ⟨B1, m1, e1, rfl⟩ := ho1.ri.val
  have o1 := ho1.lower (b := w.heap.size) hs1
  have k1 := M2.o.cell 1
  have f1 := M2.o.frozen 1
  have M3 := M2.store (k2 := nd.kind) (f2 := .slice B1 m1 e1) (r2 := .slice none 0 0) 1 (.slice B1 m1 e1) rfl
  have o3 := o1.keep (gb_set (p := ⟨w.heap.size + 1 + 1, 1, none⟩) (gb_refl w1 (some (w.heap.size + 1 + 1))) (.inr rfl) (.slice B1 m1 e1)) M2.o (by decide)
  have d2 := M3.s.cell 2
  have hs3 := M3.g.size
  clear ho1 o1 M1
  go_wp2_with fail
  generalize w1.setCell ⟨w.heap.size + 1 + 1, 1, none⟩ (.slice B1 m1 e1) = Y at *
  refine (toIntS_any B0 _ nd.row Y (hr.new M3.g hB) (by omega) hl2).mono ?_
  rintro e w4 ⟨v4, rfl, ho4, hg4⟩
  have M4 := M3.call hg4
  obtain ⟨B4, m4, e4, rfl⟩ := ho4.ri.val
  have o4 := ho4.lower (b := w.heap.size) hs3
  have o5 := o3.new hg4
  have M5 := M4.store (k2 := nd.kind) (f2 := .slice B1 m1 e1) (r2 := .slice B4 m4 e4) 2 (.slice B4 m4 e4) rfl
  have hgs := gb_set (p := ⟨w.heap.size + 1 + 1, 2, none⟩) (gb_refl w4 (some (w.heap.size + 1 + 1))) (.inr rfl) (.slice B4 m4 e4)
  have o6 := o4.keep hgs M4.o (by decide)
  have o7 := o5.keep hgs M4.o (by decide)
  have k2 := M4.o.cell 2
  have f2 := M4.o.frozen 2
  have k50 := M5.o.cell 0
  have k51 := M5.o.cell 1
  have k52 := M5.o.cell 2
  have r50 := M5.res.cell 0
  have r51 := M5.res.cell 1
  have r52 := M5.res.cell 2
  have q50 := M5.res.frozen 0
  have q51 := M5.res.frozen 1
  have q52 := M5.res.frozen 2
  go_wp2_with fail
  generalize w4.setCell ⟨w.heap.size + 1 + 1, 2, none⟩ (.slice B4 m4 e4) = Z at *
  refine bodyPost_ret (v := .agg #[.int .i64 nd.kind, .slice B1 m1 e1, .slice B4 m4 e4]) (by simp [results, Tryd.results20, go_sem, r50, r51, r52]) rfl ?_
  have hst := gb_set3 Z (w.heap.size + 1) (.int .i64 nd.kind) (.slice B1 m1 e1) (.slice B4 m4 e4)
  exact ⟨_, _, rfl, o7.keep hst M5.res (by decide), o6.keep hst M5.res (by decide), gb_new M5.g hst (fun g e => by cases e; exact .inl (by omega))⟩

end Go.Proofs.YthampfkicnakgaaDoor
