/- Walks: spec.l14Copy. · Walks: spec.l14Do. · Walks: spec.TurnRun. -/
import Derived.Test.YtihobnheficpjaaGreatM19
import Derived.Test.YtihobnheficpjaaGreatM18
import Derived.Deep.RegionHeld3
namespace Go.Proofs.YtihobnheficpjaaGreat
open Go.RowKit

theorem gb_set4 (w : World) (g : Nat) (u v x y : Value) : w.grownBy ((((w.setCell ⟨g, 0, none⟩ u).setCell ⟨g, 1, none⟩ v).setCell ⟨g, 2, none⟩ x).setCell ⟨g, 3, none⟩ y) (some g) :=
  gb_set (gb_set3 w g u v x) (.inr rfl) y
def zcrew : Array Value := #[.slice none 0 0, .slice none 0 0, .slice none 0 0, .slice none 0 0]
/-- The copy in the making lies in block x3, the argument's box in xb, the result's cell in R. -/
structure CopyMid (w wx : World) (xb R x3 b2 : Nat) (d0 k0 o0 r0 d k o r : Value) (c : Crew) (D Rw : List (List Int)) (xs ys : List Value) : Prop where
  b : BoxC wx xb d0 k0 o0 r0 c
  res : Blk wx R 27 #[.slice none 0 0, .slice none 0 0, .slice none 0 0, .slice none 0 0]
  x : Blk wx x3 27 #[d, k, o, r]
  dq : LX wx w.heap.size d D xs
  ct : RI wx k c.counts
  dn : OwnI wx w.heap.size o c.done
  ro : LX wx b2 r Rw ys
  hb : w.heap.size ≤ b2
  hbx : b2 ≤ wx.heap.size
  ap : r = .slice none 0 0 ∨ ∀ g, d.ownBlock = some g → g < b2
  al : Apart (o :: (xs ++ ys))
  g : w.grownBy wx none
  lx : w.heap.size ≤ x3
  nb : xb ≠ x3
  nr : R ≠ x3
  hR : w.heap.size ≤ R
section
variable {w wx wy : World} {xb R x3 b2 : Nat} {d0 k0 o0 r0 d k o r : Value} {c : Crew} {D Rw : List (List Int)} {xs ys : List Value}
theorem CopyMid.new (M : CopyMid w wx xb R x3 b2 d0 k0 o0 r0 d k o r c D Rw xs ys) (hg : wx.grownBy wy none) : CopyMid w wy xb R x3 b2 d0 k0 o0 r0 d k o r c D Rw xs ys :=
  ⟨M.b.new hg, M.res.grown hg (by simp), M.x.grown hg (by simp), M.dq.new hg, M.ct.new hg, M.dn.new hg, M.ro.new hg, M.hb, Nat.le_trans M.hbx hg.size, M.ap, M.al, gb_trans M.g hg, M.lx, M.nb, M.nr, M.hR⟩
theorem BoxC.grown {w w' : World} {g : Nat} {d k o r : Value} {c : Crew} {row : Option Nat} (h : BoxC w g d k o r c) (hg : w.grownBy w' row) (hne : some g ≠ row) (hr : NotE w 3 row) (hr' : NotE w 25 row) : BoxC w' g d k o r c :=
  ⟨h.b.grown hg hne, h.dq.grown hg hr hr', h.ct.grown hg hr, h.dn.grown hg hr, h.ro.grown hg hr hr'⟩
theorem CopyMid.lts (M : CopyMid w wx xb R x3 b2 d0 k0 o0 r0 d k o r c D Rw xs ys) : ∀ u ∈ o :: (xs ++ ys), ∀ g, u.ownBlock = some g → g < wx.heap.size := by
  intro u hu g hg
  rcases List.mem_cons.1 hu with rfl | hu
  · exact (M.dn.lt g hg).2
  · rcases List.mem_append.1 hu with hu | hu
    · exact (M.dq.lts u hu g hg).2
    · exact (M.ro.lts u hu g hg).2
theorem CopyMid.apR (M : CopyMid w wx xb R x3 b2 d0 k0 o0 r0 d k o r c D Rw xs ys) {f : Value} {l : List Int} (hf : OwnI wy wx.heap.size f l) : Apart (o :: (xs ++ (ys ++ [f]))) := by
  have := M.al.join (Apart.one f) M.lts (fun u hu g hg => by obtain rfl : u = f := (by simpa using hu); exact (hf.lt g hg).1)
  simpa using this
theorem CopyMid.apD (M : CopyMid w wx xb R x3 b2 d0 k0 o0 r0 d k o r c D Rw xs []) {f : Value} {l : List Int} (hf : OwnI wy wx.heap.size f l) : Apart (o :: ((xs ++ [f]) ++ [])) := by
  have := M.apR hf
  simpa using this
/-- One more deque. -/
theorem CopyMid.pushD (M : CopyMid w wx xb R x3 b2 d0 k0 o0 r0 d k o (.slice none 0 0) c D [] xs []) (hc : CV w (.agg #[d0, k0, o0, r0]) c) (hg : wx.grownBy wy d.ownBlock) {v' f : Value} {D' : List (List Int)} (ho : LX wy w.heap.size v' D' (xs ++ [f])) (hal : Apart (o :: ((xs ++ [f]) ++ []))) :
    wy.cell? ⟨x3, 0, none⟩ = some d ∧ wy.frozen? ⟨x3, 0, none⟩ = false ∧ CopyMid w (wy.setCell ⟨x3, 0, none⟩ v') xb R x3 b2 d0 k0 o0 r0 v' k o (.slice none 0 0) c D' [] (xs ++ [f]) [] := by
  have hne : ∀ {g : Nat} {cs : Array Value}, Blk wx g 27 cs → some g ≠ d.ownBlock := fun hb e => M.dq.notE (by decide) _ e.symm _ hb
  have hx := M.x.grown hg (hne M.x)
  have hst : wy.grownBy (wy.setCell ⟨x3, 0, none⟩ v') (some x3) := gb_set (gb_refl wy (some x3)) (.inr rfl) _
  have hg2 : w.grownBy wy none := M.dq.gb M.g hg (Nat.le_refl _)
  have hg3 : w.grownBy (wy.setCell ⟨x3, 0, none⟩ v') none := gb_set hg2 (.inl M.lx) _
  have hn2 : NotE wy 3 (some x3) := NotE.blk hx (by decide)
  have hn3 : NotE wy 25 (some x3) := NotE.blk hx (by decide)
  have hn1 : NotE wx 3 d.ownBlock := M.dq.notE (by decide)
  obtain ⟨d0', k0', o0', r0', e, q1, q2, q3, q4⟩ := hc
  injection e with e
  injection e with e
  injection e with e1 e
  injection e with e2 e
  injection e with e3 e
  injection e with e4 e
  subst e1 e2 e3 e4
  refine ⟨hx.cell 0, hx.frozen 0, ⟨(M.b.b.grown hg (hne M.b.b)).far M.nb _, q1.new hg3, q2.new hg3, q3.new hg3, q4.new hg3⟩, (M.res.grown hg (hne M.res)).far M.nr _, hx.set_ 0 v', ?_, (M.ct.grown hg hn1).grown hst hn2, (M.dn.grown hg hn1).grown hst hn2, LX.nil _ _, M.hb, ?_, .inl rfl, hal, hg3, M.lx, M.nb, M.nr, M.hR⟩
  · exact ho.grown hst hn2 hn3
  · exact Nat.le_trans M.hbx (Nat.le_trans hg.size hst.size)
/-- One more row. -/
theorem CopyMid.pushR (M : CopyMid w wx xb R x3 b2 d0 k0 o0 r0 d k o r c D Rw xs ys) (hlt : ∀ g, d.ownBlock = some g → g < b2) (hc : CV w (.agg #[d0, k0, o0, r0]) c) (hg : wx.grownBy wy r.ownBlock) {v' f : Value} {R' : List (List Int)} (ho : LX wy b2 v' R' (ys ++ [f])) (hal : Apart (o :: (xs ++ (ys ++ [f])))) :
    wy.cell? ⟨x3, 3, none⟩ = some r ∧ wy.frozen? ⟨x3, 3, none⟩ = false ∧ CopyMid w (wy.setCell ⟨x3, 3, none⟩ v') xb R x3 b2 d0 k0 o0 r0 d k o v' c D R' xs (ys ++ [f]) := by
  have hne : ∀ {g : Nat} {cs : Array Value}, Blk wx g 27 cs → some g ≠ r.ownBlock := fun hb e => M.ro.notE (by decide) _ e.symm _ hb
  have hx := M.x.grown hg (hne M.x)
  have hst : wy.grownBy (wy.setCell ⟨x3, 3, none⟩ v') (some x3) := gb_set (gb_refl wy (some x3)) (.inr rfl) _
  have hg2 : w.grownBy wy none := M.ro.gb M.g hg M.hb
  have hg3 : w.grownBy (wy.setCell ⟨x3, 3, none⟩ v') none := gb_set hg2 (.inl M.lx) _
  have hn2 : NotE wy 3 (some x3) := NotE.blk hx (by decide)
  have hn3 : NotE wy 25 (some x3) := NotE.blk hx (by decide)
  have hn1 : NotE wx 3 r.ownBlock := M.ro.notE (by decide)
  have hdq : LX wy w.heap.size d D xs := by
    cases hr : r.ownBlock with
    | none => rw [hr] at hg; exact M.dq.new hg
    | some b =>
      rw [hr] at hg
      refine M.dq.far hg (hr ▸ hn1) (fun e => ?_)
      have := hlt b e
      have := (M.ro.lt b hr).1
      omega
  obtain ⟨d0', k0', o0', r0', e, q1, q2, q3, q4⟩ := hc
  injection e with e
  injection e with e
  injection e with e1 e
  injection e with e2 e
  injection e with e3 e
  injection e with e4 e
  subst e1 e2 e3 e4
  refine ⟨hx.cell 3, hx.frozen 3, ⟨(M.b.b.grown hg (hne M.b.b)).far M.nb _, q1.new hg3, q2.new hg3, q3.new hg3, q4.new hg3⟩, (M.res.grown hg (hne M.res)).far M.nr _, hx.set_ 3 v', hdq.grown hst hn2 hn3, (M.ct.grown hg hn1).grown hst hn2, (M.dn.grown hg hn1).grown hst hn2, ho.grown hst hn2 hn3, M.hb, Nat.le_trans M.hbx (Nat.le_trans hg.size hst.size), .inr hlt, hal, hg3, M.lx, M.nb, M.nr, M.hR⟩
end
def CrewOut (w : World) (c : Crew) (e : Ending) (w' : World) : Prop := ∃ v, e = .returned v ∧ OwnC w' w.heap.size v c ∧ w.grownBy w' none
theorem CopyMid.mk0 {w W w1 : World} {x3 : Nat} {d0 k0 o0 r0 k o : Value} {c : Crew} (hgW : w.grownBy W none) (hg : W.grownBy w1 none) (hX : BoxC W w.heap.size d0 k0 o0 r0 c) (hR : Blk W (w.heap.size + 1) 27 #[.slice none 0 0, .slice none 0 0, .slice none 0 0, .slice none 0 0])
    (hB : Blk w1 x3 27 #[.slice none 0 0, .slice none 0 0, .slice none 0 0, .slice none 0 0]) (hbg : W.heap.size ≤ x3) (hk : OwnI w1 W.heap.size k c.counts) (ho : OwnI w1 W.heap.size o c.done) :
    CopyMid w ((((w1.setCell ⟨x3, 0, none⟩ (.slice none 0 0)).setCell ⟨x3, 1, none⟩ k).setCell ⟨x3, 2, none⟩ o).setCell ⟨x3, 3, none⟩ (.slice none 0 0)) w.heap.size (w.heap.size + 1) x3 w.heap.size d0 k0 o0 r0 (.slice none 0 0) k o (.slice none 0 0) c [] [] [] [] := by
  have hst := gb_set4 w1 x3 (.slice none 0 0) k o (.slice none 0 0)
  have hn : NotE w1 3 (some x3) := NotE.blk hB (by decide)
  have hn' : NotE w1 25 (some x3) := NotE.blk hB (by decide)
  have h1 := hX.b.lt
  have h2 := hR.lt
  have h3 := hgW.size
  have hs := hg.size
  exact ⟨(hX.new hg).grown hst (by simp; omega) hn hn', (hR.grown hg (by simp)).grown hst (by simp; omega), (((hB.set_ 0 _).set_ 1 _).set_ 2 _).set_ 3 _, LX.nil _ _, hk.ri.grown hst hn, (ho.low h3).grown hst hn, LX.nil _ _, Nat.le_refl _, Nat.le_trans h3 (Nat.le_trans hs hst.size), .inl rfl, Apart.one _,
    gb_new (gb_trans hgW hg) hst (fun g e => by cases e; exact .inl (by omega)), by omega, by omega, by omega, by omega⟩
theorem CopyMid.end_ {w wx : World} {xb R x3 b2 : Nat} {d0 k0 o0 r0 d k o r : Value} {c : Crew} {xs ys : List Value} (M : CopyMid w wx xb R x3 b2 d0 k0 o0 r0 d k o r c c.deques c.rows xs ys) :
    CrewOut w c (.returned (.agg #[d, k, o, r])) ((((wx.setCell ⟨R, 0, none⟩ d).setCell ⟨R, 1, none⟩ k).setCell ⟨R, 2, none⟩ o).setCell ⟨R, 3, none⟩ r) := by
  have hst := gb_set4 wx R d k o r
  have hne : NotE wx 3 (some R) := NotE.blk M.res (by decide)
  have hne2 : NotE wx 25 (some R) := NotE.blk M.res (by decide)
  have hro := M.ro.low M.hb
  refine ⟨_, rfl, ⟨d, k, o, r, xs, ys, rfl, M.dq.grown hst hne hne2, M.ct.grown hst hne, M.dn.grown hst hne, hro.grown hst hne hne2, M.al, fun g hg hr => ?_⟩, gb_new M.g hst (fun g e => by cases e; exact .inl M.hR)⟩
  rcases M.ap with h | h
  · rw [h] at hr; cases hr
  · have := h g hg
    have := (M.ro.lt g hr).1
    omega
/-- What the operations of the region that begins the copy yield. -/
def cpF (xb base : Nat) (k0 o0 : Value) (c : Crew) : Nat → World → Value → Prop
  | 0, w, v => ∃ g, v = .slice (some ⟨g, 0, none⟩) 0 0 ∧ Blk w g 3 #[] ∧ base ≤ g
  | 1, _, v => v = .pointer (some ⟨xb, 1, none⟩)
  | 2, _, v => v = k0
  | 3, w, v => OwnI w base v c.counts
  | 4, w, v => ∃ g, v = .slice (some ⟨g, 0, none⟩) 0 0 ∧ Blk w g 3 #[] ∧ base ≤ g
  | 5, _, v => v = .pointer (some ⟨xb, 2, none⟩)
  | 6, _, v => v = o0
  | 7, w, v => OwnI w base v c.done
  | 8, w, v => ∃ k o, v = .agg #[.slice none 0 0, k, o, .slice none 0 0] ∧ OwnI w base k c.counts ∧ OwnI w base o c.done
  | 9, w, v => ∃ g, v = .pointer (some ⟨g, 0, none⟩) ∧ Blk w g 27 #[.slice none 0 0, .slice none 0 0, .slice none 0 0, .slice none 0 0] ∧ base ≤ g
  | _, _, _ => True
theorem cpF_new {xb base : Nat} {k0 o0 : Value} {c : Crew} (j : Nat) (w w' : World) (v : Value) (h : cpF xb base k0 o0 c j w v) (hg : w.grownBy w' none) : cpF xb base k0 o0 c j w' v := by
  match j, h with
  | 0, ⟨g, h1, h2, h3⟩ => exact ⟨g, h1, h2.grown hg (by simp), h3⟩
  | 1, h => exact h
  | 2, h => exact h
  | 3, h => exact OwnI.new h hg
  | 4, ⟨g, h1, h2, h3⟩ => exact ⟨g, h1, h2.grown hg (by simp), h3⟩
  | 5, h => exact h
  | 6, h => exact h
  | 7, h => exact OwnI.new h hg
  | 8, ⟨k, o, h1, h2, h3⟩ => exact ⟨k, o, h1, h2.new hg, h3.new hg⟩
  | 9, ⟨g, h1, h2, h3⟩ => exact ⟨g, h1, h2.grown hg (by simp), h3⟩
  | _ + 10, _ => trivial
set_option maxHeartbeats 8000000 in
set_option maxRecDepth 20000 in
theorem l14Copy_any (v : Value) (c : Crew) (w : World) (h : CV w v c) (hf1 : c.deques.length ≤ 1000) (hf2 : ∀ l ∈ c.deques, l.length ≤ 1000000) (hf3 : c.rows.length ≤ 1000) (hf4 : ∀ l ∈ c.rows, l.length ≤ 1000000) (hf5 : c.counts.length ≤ 1000000) (hf6 : c.done.length ≤ 1000000) :
    Calls Tryz.prog 20 #[v] w (CrewOut w c) := by
  obtain ⟨A1, n1, c1, A2, n2, c2, A3, n3, c3, A4, n4, c4, rfl, h1, h2, h3, h4⟩ := h.form
  have hX := h.box
  have hn1 := h1.len
  have hn4 := h4.len
  have Hn1 := Lib.hid hn1
  have Hn4 := Lib.hid hn4
  have hk1 : n1 ≤ 1000 := by omega
  have hk4 : n4 ≤ 1000 := by omega
  have Hf2 := Lib.hid hf2
  have Hf4 := Lib.hid hf4
  have Hcv := Lib.hid h
  clear hn1 hn4 hf2 hf4 h1 h2 h3 h4 h
  go_enter Tryz.func20, Tryz.ntmps20
  go_upto_region 1 with fail
  have hR0 := Blk.new (w.alloc (.cells #[.slice A1 n1 c1, .slice A2 n2 c2, .slice A3 n3 c3, .slice A4 n4 c4] 27)) 27 #[.slice none 0 0, .slice none 0 0, .slice none 0 0, .slice none 0 0]
  rw [World.size_alloc] at hR0
  have hX0 := hX.new (World.grownBy_alloc _ (.cells #[.slice none 0 0, .slice none 0 0, .slice none 0 0, .slice none 0 0] 27) none)
  have hgW : w.grownBy ((w.alloc (.cells #[.slice A1 n1 c1, .slice A2 n2 c2, .slice A3 n3 c3, .slice A4 n4 c4] 27)).alloc (.cells #[.slice none 0 0, .slice none 0 0, .slice none 0 0, .slice none 0 0] 27)) none := gb_alloc (gb_alloc (gb_refl w none) _) _
  generalize ((w.alloc (.cells #[.slice A1 n1 c1, .slice A2 n2 c2, .slice A3 n3 c3, .slice A4 n4 c4] 27)).alloc (.cells #[.slice none 0 0, .slice none 0 0, .slice none 0 0, .slice none 0 0] 27)) = W at hR0 hX0 hgW ⊢
  have HR0 := Lib.hid hR0
  have hRlt := hR0.lt
  have hXlt := hX0.b.lt
  clear hX hR0
  go_cut [3] (fun t3 wx => ∃ x3 k' o', t3 = .pointer (some ⟨x3, 0, none⟩) ∧ CopyMid w wx w.heap.size (w.heap.size + 1) x3 w.heap.size (.slice A1 n1 c1) (.slice A2 n2 c2) (.slice A3 n3 c3) (.slice A4 n4 c4) (.slice none 0 0) k' o' (.slice none 0 0) c [] [] [] [])
  case first =>
    refine wp_region_grow (n := 10) (m := 54) (F := cpF w.heap.size W.heap.size (.slice A2 n2 c2) (.slice A3 n3 c3) c) (by kernel_rfl) (by kernel_rfl) rfl cpF_new ?_ ?_
    · have hb1 : Hid (BoxC W w.heap.size (.slice A1 n1 c1) (.slice A2 n2 c2) (.slice A3 n3 c3) (.slice A4 n4 c4) c) := hX0
      have hct : c.counts.length ≤ 1000000000 := by omega
      have hdt : c.done.length ≤ 1000000000 := by omega
      have hgD : W.grownBy W.drew none := gb_drew (gb_refl _ none)
      clear hX0
      intro j hj o a w1 K ho hg hs hb hK
      have hg0 := gb_trans hgD hg
      have hbx := hb1.out.new hg0
      have hsz : W.heap.size ≤ w1.heap.size := hg0.size
      have e1 : a.tmps[1]? = some (.pointer (some ⟨w.heap.size, 0, none⟩)) := (hs.2.2 1 (by decide)).trans rfl
      match j, hj with
      | 0, _ =>
        obtain rfl := Option.some.inj ho
        exact gOp_makes (v := .slice (some ⟨w1.heap.size, 0, none⟩) 0 0) (w' := w1.alloc (.cells #[] 3)) (by simp [go_sem, execOp]) (hK _ _ (World.grownBy_alloc _ _ _) ⟨_, rfl, Blk.new _ _ _, hsz⟩)
      | 1, _ =>
        obtain rfl := Option.some.inj ho
        exact gOp_value (v := .pointer (some ⟨w.heap.size, 1, none⟩)) (by simp [go_sem, execOp, e1]) (hK _ _ (gb_refl _ _) rfl)
      | 2, _ =>
        obtain rfl := Option.some.inj ho
        obtain ⟨_, q1, rfl⟩ := hb 1 (by decide) (by kernel_rfl)
        have e7 : a.tmps[7]? = some _ := q1
        have d1 := hbx.d1
        exact gOp_value (v := .slice A2 n2 c2) (by simp [go_sem, execOp, e7, d1]) (hK _ _ (gb_refl _ _) rfl)
      | 3, _ =>
        obtain rfl := Option.some.inj ho
        obtain ⟨_, q1, g, rfl, hB, hbg⟩ := hb 0 (by decide) (by kernel_rfl)
        obtain ⟨_, q2, rfl⟩ := hb 2 (by decide) (by kernel_rfl)
        have e6 : a.tmps[6]? = some _ := q1
        have e8 : a.tmps[8]? = some _ := q2
        obtain ⟨v', w', hr, h3, h4⟩ := run_copy0 25 hB hbg hbx.ct hct
        exact gOp_makes (v := v') (w' := w') (by simp [execOp, resolve, invoke, builtin, eval_get e6, eval_get e8, hr]) (hK _ _ h4 h3)
      | 4, _ =>
        obtain rfl := Option.some.inj ho
        exact gOp_makes (v := .slice (some ⟨w1.heap.size, 0, none⟩) 0 0) (w' := w1.alloc (.cells #[] 3)) (by simp [go_sem, execOp]) (hK _ _ (World.grownBy_alloc _ _ _) ⟨_, rfl, Blk.new _ _ _, hsz⟩)
      | 5, _ =>
        obtain rfl := Option.some.inj ho
        exact gOp_value (v := .pointer (some ⟨w.heap.size, 2, none⟩)) (by simp [go_sem, execOp, e1]) (hK _ _ (gb_refl _ _) rfl)
      | 6, _ =>
        obtain rfl := Option.some.inj ho
        obtain ⟨_, q1, rfl⟩ := hb 5 (by decide) (by kernel_rfl)
        have e7 : a.tmps[11]? = some _ := q1
        have d1 := hbx.d2
        exact gOp_value (v := .slice A3 n3 c3) (by simp [go_sem, execOp, e7, d1]) (hK _ _ (gb_refl _ _) rfl)
      | 7, _ =>
        obtain rfl := Option.some.inj ho
        obtain ⟨_, q1, g, rfl, hB, hbg⟩ := hb 4 (by decide) (by kernel_rfl)
        obtain ⟨_, q2, rfl⟩ := hb 6 (by decide) (by kernel_rfl)
        have e6 : a.tmps[10]? = some _ := q1
        have e8 : a.tmps[12]? = some _ := q2
        obtain ⟨v', w', hr, h3, h4⟩ := run_copy0 25 hB hbg hbx.dn hdt
        exact gOp_makes (v := v') (w' := w') (by simp [execOp, resolve, invoke, builtin, eval_get e6, eval_get e8, hr]) (hK _ _ h4 h3)
      | 8, _ =>
        obtain rfl := Option.some.inj ho
        obtain ⟨k', q1, hk'⟩ := hb 3 (by decide) (by kernel_rfl)
        obtain ⟨o', q2, ho'⟩ := hb 7 (by decide) (by kernel_rfl)
        obtain ⟨Ak, nk, ck, rfl⟩ := (show OwnI _ _ k' _ from hk').ri.val
        obtain ⟨Ao, no, co, rfl⟩ := (show OwnI _ _ o' _ from ho').ri.val
        have e9 : a.tmps[9]? = some _ := q1
        have e13 : a.tmps[13]? = some _ := q2
        exact gOp_value (v := .agg #[.slice none 0 0, .slice Ak nk ck, .slice Ao no co, .slice none 0 0]) (by simp [go_sem, execOp, e9, e13]) (hK _ _ (gb_refl _ _) ⟨_, _, rfl, hk', ho'⟩)
      | 9, _ =>
        obtain rfl := Option.some.inj ho
        exact gOp_makes (v := .pointer (some ⟨w1.heap.size, 0, none⟩)) (w' := w1.alloc (.cells #[.slice none 0 0, .slice none 0 0, .slice none 0 0, .slice none 0 0] 27)) (by simp [go_sem, execOp]) (hK _ _ (World.grownBy_alloc _ _ _) ⟨_, rfl, Blk.new _ _ _, hsz⟩)
    · intro vs hvs w1 hg hall
      match vs, hvs with
      | [v0, v1, v2, v3, v4, v5, v6, v7, v8, v9], _ =>
        obtain ⟨x3, e9, hB, hbg⟩ := hall 9 (by decide)
        obtain ⟨k', o', e8, hk', ho'⟩ := hall 8 (by decide)
        obtain rfl : v9 = .pointer (some ⟨x3, 0, none⟩) := e9
        obtain rfl : v8 = .agg #[.slice none 0 0, k', o', .slice none 0 0] := e8
        have b0 := hB.cell 0
        have b1 := hB.cell 1
        have b2 := hB.cell 2
        have b3 := hB.cell 3
        have f0 := hB.frozen 0
        have f1 := hB.frozen 1
        have f2 := hB.frozen 2
        have f3 := hB.frozen 3
        have hk'' : OwnI w1 W.heap.size k' c.counts := hk'
        have ho'' : OwnI w1 W.heap.size o' c.done := ho'
        obtain ⟨Ak, nk, ck, rfl⟩ := hk''.ri.val
        obtain ⟨Ao, no, co, rfl⟩ := ho''.ri.val
        simp only [putTo, List.range, List.range.loop, List.foldl, gDst, Act.put, List.drop]
        go_wp2_with fail
        have M := CopyMid.mk0 hgW (gb_trans (gb_drew (gb_refl _ none)) hg) hX0 HR0.out hB hbg hk'' ho''
        clear b0 b1 b2 b3 f0 f1 f2 f3 hk'' ho'' hB
        go_meet
        exact ⟨x3, _, _, rfl, M⟩
  case rest =>
    obtain ⟨x3, k', o', rfl, M⟩ := hcut
    clear hX0 HR0 hgW hRlt hXlt
    have hs1 : w.heap.size ≤ w.heap.size + 1 := Nat.le_succ _
    generalize w.heap.size + 1 = R at M ⊢
    go_wp2_with fail
    go_loopg [4] (n1 + 1) (fun mm i wr => ∃ (k : Nat) (d : Value) (xs : List Value), k ≤ n1 ∧ mm = n1 + 1 - k ∧ i = .int .i64 k ∧ CopyMid w wr w.heap.size R x3 w.heap.size (.slice A1 n1 c1) (.slice A2 n2 c2) (.slice A3 n3 c3) (.slice A4 n4 c4) d k' o' (.slice none 0 0) c (c.deques.take k) [] xs [])
    case atStart => exact ⟨0, _, _, Nat.zero_le _, rfl, rfl, M⟩
    case round =>
      clear M
      obtain ⟨k, d, xs, hk, rfl, rfl, M⟩ := hrel
      have b0 := M.b.d0
      by_cases hlt : k < n1
      · obtain ⟨g, o, l, B, m, e', rfl, hl, q0, hrl2, -, -, -⟩ := M.b.dq.at_ hlt
        have hll2 : l.length ≤ 1000000 := Hf2.out l (List.mem_of_getElem? hl)
        have Ht : Hid (c.deques.take (k + 1) = c.deques.take k ++ [l]) := by
          show _ = _
          obtain ⟨hkl, rfl⟩ := List.getElem?_eq_some_iff.1 hl
          rw [List.take_succ_eq_append_getElem hkl]
        have htl : (c.deques.take k).length ≤ 1000 := by rw [List.length_take]; omega
        obtain ⟨Af, nf, cf, rfl⟩ := M.dq.rl.val
        have hlb : w.heap.size < wr.heap.size := M.b.b.lt
        have hlx : x3 < wr.heap.size := M.x.lt
        have hlg : g < wr.heap.size := by simpa using cell_lt q0
        have x0 := M.x.cell 0
        have hE : OwnI (wr.alloc (.cells #[] 3)).drew wr.heap.size (.slice (some ⟨wr.heap.size, 0, none⟩) 0 0) [] := OwnI.empty wr (Nat.le_refl _)
        have hgE : wr.grownBy (wr.alloc (.cells #[] 3)).drew none := gb_drew (World.grownBy_alloc wr _ none)
        have hrE : RI (wr.alloc (.cells #[] 3)).drew (.slice B m e') l := hrl2.new hgE
        have hlen : ([] : List Int).length + l.length ≤ 1000000000 := by simp only [List.length_nil]; omega
        clear hl
        go_wp2_with fail
        go_region_law (first
          | (refine step_extend_ints (w := (wr.alloc (.cells #[] 3)).drew) (base := wr.heap.size) (v := .slice (some ⟨wr.heap.size, 0, none⟩) 0 0) (xv := .slice B m e') (l0 := []) (l := l) (.tmp 24) (.tmp 29) rfl rfl hE hrE hlen hgE.size rfl rfl ?_; intro v' w4 hown4 hg4; have hg5 := hE.gb hgE hg4 (Nat.le_refl _); have M4 := M.new hg5; have x04 := M4.x.cell 0; have hl4 : x3 < w4.heap.size := Nat.lt_of_lt_of_le hlx hg5.size; obtain ⟨A4', n4', c4', rfl⟩ := hown4.ri.val; have r4 : OwnI w4 wr.heap.size (.slice A4' n4' c4') l := by simpa using hown4)
          | (refine step_push_lx (w := w4) (base := w.heap.size) (v := .slice Af nf cf) (ll := c.deques.take k) (l := l) (f := .slice A4' n4' c4') (.tmp 23) (.tmp 31) rfl rfl M4.dq (r4.low M.g.size) (by omega) M4.g.size rfl rfl ?_; intro v5 w5 hown5 hg6; obtain ⟨z1, z2, M5⟩ := M4.pushD Hcv.out hg6 hown5 (M.apD r4); obtain ⟨A5, n5, c5, rfl⟩ := hown5.rl.val))
        all_goals
          rw [← Ht.out] at M5
          go_wp2_with fail
          go_roundg (n1 + 1 - (k + 1))
          case measure => omega
          case rel => exact ⟨k + 1, _, _, by omega, rfl, by go_num, M5⟩
      · obtain rfl : n1 = k := by omega
        have M0 : CopyMid w wr w.heap.size R x3 wr.heap.size (.slice A1 n1 c1) (.slice A2 n2 c2) (.slice A3 n3 c3) (.slice A4 n4 c4) d k' o' (.slice none 0 0) c c.deques [] xs [] := by
          have e : c.deques.take n1 = c.deques := List.take_of_length_le (by rw [← Hn1.out]; exact Nat.le_refl _)
          rw [e] at M
          exact { M with ro := LX.nil _ _, hb := M.g.size, hbx := Nat.le_refl _, ap := .inl rfl }
        have Hlt : Hid (∀ g, d.ownBlock = some g → g < wr.heap.size) := fun g hg => (M0.dq.lt g hg).2
        clear M
        obtain ⟨w3, rfl⟩ : ∃ w3 : World, w3 = wr := ⟨_, rfl⟩
        go_wp2_with fail
        generalize w3.heap.size = b2 at M0 Hlt
        go_loopg [5] (n4 + 1) (fun mm i wr => ∃ (k : Nat) (r : Value) (ys : List Value), k ≤ n4 ∧ mm = n4 + 1 - k ∧ i = .int .i64 k ∧ CopyMid w wr w.heap.size R x3 b2 (.slice A1 n1 c1) (.slice A2 n2 c2) (.slice A3 n3 c3) (.slice A4 n4 c4) d k' o' r c c.deques (c.rows.take k) xs ys)
        case atStart => exact ⟨0, _, _, Nat.zero_le _, rfl, rfl, M0⟩
        case round =>
          clear M0
          obtain ⟨k, r, ys, hk, rfl, rfl, M⟩ := hrel
          have b3 := M.b.d3
          by_cases hlt : k < n4
          · obtain ⟨g, o, l, B, m, e', rfl, hl, q0, hrl2, -, -, -⟩ := M.b.ro.at_ hlt
            have hll2 : l.length ≤ 1000000 := Hf4.out l (List.mem_of_getElem? hl)
            have Ht : Hid (c.rows.take (k + 1) = c.rows.take k ++ [l]) := by
              show _ = _
              obtain ⟨hkl, rfl⟩ := List.getElem?_eq_some_iff.1 hl
              rw [List.take_succ_eq_append_getElem hkl]
            have htl : (c.rows.take k).length ≤ 1000 := by rw [List.length_take]; omega
            obtain ⟨Af, nf, cf, rfl⟩ := M.ro.rl.val
            have hlb : w.heap.size < wr.heap.size := M.b.b.lt
            have hlx : x3 < wr.heap.size := M.x.lt
            have hlg : g < wr.heap.size := by simpa using cell_lt q0
            have x0 := M.x.cell 3
            have hE : OwnI (wr.alloc (.cells #[] 3)).drew wr.heap.size (.slice (some ⟨wr.heap.size, 0, none⟩) 0 0) [] := OwnI.empty wr (Nat.le_refl _)
            have hgE : wr.grownBy (wr.alloc (.cells #[] 3)).drew none := gb_drew (World.grownBy_alloc wr _ none)
            have hrE : RI (wr.alloc (.cells #[] 3)).drew (.slice B m e') l := hrl2.new hgE
            have hlen : ([] : List Int).length + l.length ≤ 1000000000 := by simp only [List.length_nil]; omega
            clear hl
            go_wp2_with fail
            go_region_law (first
              | (refine step_extend_ints (w := (wr.alloc (.cells #[] 3)).drew) (base := wr.heap.size) (v := .slice (some ⟨wr.heap.size, 0, none⟩) 0 0) (xv := .slice B m e') (l0 := []) (l := l) (.tmp 43) (.tmp 48) rfl rfl hE hrE hlen hgE.size rfl rfl ?_; intro v' w4 hown4 hg4; have hg5 := hE.gb hgE hg4 (Nat.le_refl _); have M4 := M.new hg5; have x04 := M4.x.cell 3; have hl4 : x3 < w4.heap.size := Nat.lt_of_lt_of_le hlx hg5.size; obtain ⟨A4', n4', c4', rfl⟩ := hown4.ri.val; have r4 : OwnI w4 wr.heap.size (.slice A4' n4' c4') l := by simpa using hown4)
              | (refine step_push_lx (w := w4) (base := b2) (v := .slice Af nf cf) (ll := c.rows.take k) (l := l) (f := .slice A4' n4' c4') (.tmp 42) (.tmp 50) rfl rfl M4.ro (r4.low M.hbx) (by omega) M4.hbx rfl rfl ?_; intro v5 w5 hown5 hg6; obtain ⟨z1, z2, M5⟩ := M4.pushR Hlt.out Hcv.out hg6 hown5 (M.apR r4); obtain ⟨A5, n5, c5, rfl⟩ := hown5.rl.val))
            all_goals
              rw [← Ht.out] at M5
              go_wp2_with fail
              go_roundg (n4 + 1 - (k + 1))
              case measure => omega
              case rel => exact ⟨k + 1, _, _, by omega, rfl, by go_num, M5⟩
          · obtain rfl : n4 = k := by omega
            have e : c.rows.take n4 = c.rows := List.take_of_length_le (by rw [← Hn4.out]; exact Nat.le_refl _)
            rw [e] at M
            have hcr := M.end_
            obtain ⟨Ad, nd, cd, rfl⟩ := M.dq.rl.val
            obtain ⟨Ak, nk, ck, rfl⟩ := M.ct.val
            obtain ⟨Ao, no, co, rfl⟩ := M.dn.ri.val
            obtain ⟨Ar, nr, cr, rfl⟩ := M.ro.rl.val
            have x0 := M.x.cell 0
            have x1 := M.x.cell 1
            have x2 := M.x.cell 2
            have x3' := M.x.cell 3
            have y0 := M.res.cell 0
            have y1 := M.res.cell 1
            have y2 := M.res.cell 2
            have y3 := M.res.cell 3
            have f0 := M.res.frozen 0
            have f1 := M.res.frozen 1
            have f2 := M.res.frozen 2
            have f3 := M.res.frozen 3
            clear M e
            go_wp2_with fail
            refine bodyPost_ret (v := .agg #[.slice Ad nd cd, .slice Ak nk ck, .slice Ao no co, .slice Ar nr cr]) (by simp [results, Tryz.results20, go_sem, y0, y1, y2, y3]) rfl ?_
            exact hcr
end Go.Proofs.YtihobnheficpjaaGreat
namespace Go.Proofs.YtihobnheficpjaaGreat
open Go.RowKit

theorem LX.apart_ {w w' : World} {base b : Nat} {cur : Array Value} {v : Value} {ll : List (List Int)} {xs : List Value} (h : LX w base v ll xs) (hg : w.grownBy w' (some b)) (hB : Blk w b 3 cur) (hx : ∀ u ∈ xs, u.ownBlock ≠ some b) : LX w' base v ll xs := by
  have hne : NotE w 25 (some b) := NotE.blk hB (by decide)
  refine ⟨own_grown h.1 hg hne, fun i l hi => ?_⟩
  obtain ⟨u, k1, k2⟩ := h.2 i l hi
  exact ⟨u, k1, k2.apart_ hg (.inr (hx u (List.mem_of_getElem? k1)))⟩
theorem OwnI.block {w : World} {base g : Nat} {v : Value} {l : List Int} (h : OwnI w base v l) (hg : v.ownBlock = some g) : ∃ cur, Blk w g 3 cur := by
  rcases h.2 with ⟨rfl, _⟩ | ⟨g', cap, cur, rfl, _, hh, _⟩
  · cases hg
  · injection hg with hg
    subst hg
    exact ⟨cur, hh⟩
theorem Apart.mem_ne {o : Value} {xs ys : List Value} (h : Apart (o :: (xs ++ ys))) {b : Nat} (hb : o.ownBlock = some b) : (∀ u ∈ xs, u.ownBlock ≠ some b) ∧ (∀ u ∈ ys, u.ownBlock ≠ some b) := by
  have h1 := (List.pairwise_cons.1 h).1
  exact ⟨fun u hu => h1 u (List.mem_append_left _ hu) b hb, fun u hu => h1 u (List.mem_append_right _ hu) b hb⟩
/-- A crew in block X, its rows of the call's own. -/
structure BoxO (w : World) (base X : Nat) (d k o r : Value) (D : List (List Int)) (N : List Int) (Rw : List (List Int)) (xs ys : List Value) : Prop where
  x : Blk w X 27 #[d, k, o, r]
  dq : LX w base d D xs
  dn : OwnI w base o N
  ro : LX w base r Rw ys
  al : Apart (o :: (xs ++ ys))
  dr : ∀ g, d.ownBlock = some g → r.ownBlock ≠ some g
section
variable {w w' : World} {base X : Nat} {d k o r : Value} {D Rw : List (List Int)} {N : List Int} {xs ys : List Value}
theorem BoxO.new (h : BoxO w base X d k o r D N Rw xs ys) (hg : w.grownBy w' none) : BoxO w' base X d k o r D N Rw xs ys := ⟨h.x.grown hg (by simp), h.dq.new hg, h.dn.new hg, h.ro.new hg, h.al, h.dr⟩
theorem BoxO.cv {C : List Int} (h : BoxO w base X d k o r D N Rw xs ys) (hk : RI w k C) : CV w (.agg #[d, k, o, r]) ⟨D, C, N, Rw⟩ := ⟨d, k, o, r, rfl, h.dq.rl, hk, h.dn.ri, h.ro.rl⟩
theorem BoxO.lts (h : BoxO w base X d k o r D N Rw xs ys) : ∀ u ∈ o :: (xs ++ ys), ∀ g, u.ownBlock = some g → base ≤ g ∧ g < w.heap.size := by
  intro u hu g hg
  rcases List.mem_cons.1 hu with rfl | hu
  · exact h.dn.lt g hg
  · rcases List.mem_append.1 hu with hu | hu
    · exact h.dq.lts u hu g hg
    · exact h.ro.lts u hu g hg
/-- A crew is laid in a new block. -/
theorem BoxO.lay {c : Crew} {w1 : World} {xs ys : List Value} (h1 : LX w1 base d c.deques xs) (h3 : OwnI w1 base o c.done) (h4 : LX w1 base r c.rows ys) (h5 : Apart (o :: (xs ++ ys))) (h6 : ∀ g, d.ownBlock = some g → r.ownBlock ≠ some g) :
    BoxO (w1.alloc (.cells #[d, k, o, r] 27)) base w1.heap.size d k o r c.deques c.done c.rows xs ys :=
  have hg := World.grownBy_alloc w1 (.cells #[d, k, o, r] 27) none
  ⟨Blk.new _ _ _, h1.new hg, h3.new hg, h4.new hg, h5, h6⟩
/-- One row is put in. -/
theorem BoxO.setRow {gr n cap m s : Nat} {f : Value} {l : List Int} (h : BoxO w base X d k o (.slice (some ⟨gr, 0, none⟩) n cap) D N Rw xs ys) (hm : m < Rw.length) (hf : OwnI w base f l) (hs : ∀ u ∈ o :: (xs ++ ys), ∀ g, u.ownBlock = some g → g < s) (hfs : ∀ g, f.ownBlock = some g → s ≤ g) :
    (∃ u, w.cell? ⟨gr, m, none⟩ = some u ∧ w.frozen? ⟨gr, m, none⟩ = false) ∧ w.grownBy (w.setCell ⟨gr, m, none⟩ f) (some gr) ∧
    BoxO (w.setCell ⟨gr, m, none⟩ f) base X d k o (.slice (some ⟨gr, 0, none⟩) n cap) D N (Rw.set m l) xs (ys.set m f) := by
  have hst : w.grownBy (w.setCell ⟨gr, m, none⟩ f) (some gr) := gb_set (p := ⟨gr, m, none⟩) (gb_refl w (some gr)) (.inr rfl) _
  have hI : NotE w 3 (some gr) := h.ro.notE (by decide)
  have hE : NotE w 27 (some gr) := h.ro.notE (by decide)
  refine ⟨h.ro.cell hm, hst, h.x.grown hst (fun e => by injection e with e; exact hE _ rfl _ (e ▸ h.x)), h.dq.far hst hI (fun e => h.dr gr e rfl), h.dn.grown hst hI, h.ro.set_ hm hf, ?_, h.dr⟩
  have hyl : ys.length = Rw.length := h.ro.len
  have e : o :: (xs ++ ys.set m f) = (o :: (xs ++ ys)).set (xs.length + m + 1) f := by
    rw [List.set_cons_succ, List.set_append_right _ _ (by omega), show xs.length + m - xs.length = m by omega]
  rw [e]
  exact h.al.set hs hfs
/-- A cell of the crew is written anew. -/
theorem BoxO.put (h : BoxO w base X d k o r D N Rw xs ys) {k' : Value} : BoxO (w.setCell ⟨X, 1, none⟩ k') base X d k' o r D N Rw xs ys := by
  have hst : w.grownBy (w.setCell ⟨X, 1, none⟩ k') (some X) := gb_set (p := ⟨X, 1, none⟩) (gb_refl w (some X)) (.inr rfl) _
  have hn : NotE w 3 (some X) := NotE.blk h.x (by decide)
  have hn' : NotE w 25 (some X) := NotE.blk h.x (by decide)
  exact ⟨h.x.set_ 1 _, h.dq.grown hst hn hn', h.dn.grown hst hn, h.ro.grown hst hn hn', h.al, h.dr⟩
/-- One more node is done. -/
theorem BoxO.more {o' : Value} {N' : List Int} (h : BoxO w base X d k o r D N Rw xs ys) (hg : w.grownBy w' o.ownBlock) (ho : OwnI w' base o' N') (hb : o'.ownBlock = o.ownBlock ∨ ∃ b, o'.ownBlock = some b ∧ w.heap.size ≤ b) :
    w'.cell? ⟨X, 2, none⟩ = some o ∧ w'.frozen? ⟨X, 2, none⟩ = false ∧ BoxO (w'.setCell ⟨X, 2, none⟩ o') base X d k o' r D N' Rw xs ys := by
  have hEc : NotE w 27 o.ownBlock := h.dn.notE (by decide)
  have hx := h.x.grown hg (fun e => hEc _ e.symm _ h.x)
  have hst : w'.grownBy (w'.setCell ⟨X, 2, none⟩ o') (some X) := gb_set (p := ⟨X, 2, none⟩) (gb_refl w' (some X)) (.inr rfl) _
  have hn : NotE w' 3 (some X) := NotE.blk hx (by decide)
  have hn' : NotE w' 25 (some X) := NotE.blk hx (by decide)
  have hdq : LX w' base d D xs := by
    cases e : o.ownBlock with
    | none => rw [e] at hg; exact h.dq.new hg
    | some b =>
      rw [e] at hg
      obtain ⟨cur, hB⟩ := h.dn.block e
      exact h.dq.apart_ hg hB (h.al.mem_ne e).1
  have hro : LX w' base r Rw ys := by
    cases e : o.ownBlock with
    | none => rw [e] at hg; exact h.ro.new hg
    | some b =>
      rw [e] at hg
      obtain ⟨cur, hB⟩ := h.dn.block e
      exact h.ro.apart_ hg hB (h.al.mem_ne e).2
  refine ⟨hx.cell 2, hx.frozen 2, hx.set_ 2 _, hdq.grown hst hn hn', ho.grown hst hn, hro.grown hst hn hn', ?_, h.dr⟩
  refine List.pairwise_cons.2 ⟨fun u hu g hg' => ?_, (List.pairwise_cons.1 h.al).2⟩
  rcases hb with e | ⟨b, e, hbs⟩
  · rw [e] at hg'
    exact (List.pairwise_cons.1 h.al).1 u hu g hg'
  · rw [e] at hg'
    injection hg' with hg'
    intro hu'
    have := (h.lts u (List.mem_cons_of_mem _ hu) g hu').2
    omega
end
theorem LX.at_ {w : World} {base g n cap k : Nat} {ll : List (List Int)} {xs : List Value} (h : LX w base (.slice (some ⟨g, 0, none⟩) n cap) ll xs) (hk : k < ll.length) : ∃ l u, ll[k]? = some l ∧ xs[k]? = some u ∧ w.cell? ⟨g, k, none⟩ = some u ∧ OwnI w base u l := by
  obtain ⟨h1, h2⟩ := h
  rcases h1.2 with ⟨e, hz⟩ | ⟨g', cap', cur, e, hb, hh, hn, hm, hcs, ht⟩
  · cases e
  · injection e with e1 e2 e3
    injection e1 with e1
    injection e1 with e1
    subst e1
    obtain ⟨u, k1, k2⟩ := h2 k _ (List.getElem?_eq_getElem hk)
    refine ⟨_, u, List.getElem?_eq_getElem hk, k1, ?_, k2⟩
    have hB : Blk w g 25 cur := hh
    rw [hB.cell]
    rw [← ht, List.getElem?_take] at k1
    split at k1
    · simpa using k1
    · cases k1
theorem LX.form {w : World} {base n : Nat} {v : Value} {ll : List (List Int)} {xs : List Value} (h : LX w base v ll xs) (hn : ll.length = n) (h0 : 0 < n) : ∃ g cap, v = .slice (some ⟨g, 0, none⟩) n cap ∧ n ≤ cap ∧ base ≤ g := by
  subst hn
  rcases h.1.2 with ⟨rfl, hz⟩ | ⟨g, cap, cur, rfl, hb, hh, hn, _, hcs, ht⟩
  · omega
  · exact ⟨g, cap, rfl, hn, hb⟩
/-- A deque is put in anew, its block turned. -/
theorem LX.turn {w w' : World} {base g n cap k : Nat} {ll : List (List Int)} {xs : List Value} {u u' : Value} {l' : List Int} (h : LX w base (.slice (some ⟨g, 0, none⟩) n cap) ll xs) (hk : k < ll.length) (hu : xs[k]? = some u) (hg : w.grownBy w' u.ownBlock) (hap : Apart xs) (ho : OwnI w' base u' l') (hI : ∃ l, OwnI w base u l) :
    (∃ u0, w'.cell? ⟨g, k, none⟩ = some u0 ∧ w'.frozen? ⟨g, k, none⟩ = false) ∧ RL (w'.setCell ⟨g, k, none⟩ u') (.slice (some ⟨g, 0, none⟩) n cap) (ll.set k l') ∧ w'.grownBy (w'.setCell ⟨g, k, none⟩ u') (some g) ∧ (∀ E, E ≠ 25 → NotE w' E (some g)) := by
  obtain ⟨l0, hI⟩ := hI
  have hNu : NotE w 25 u.ownBlock := hI.notE (by decide)
  have hcs := own_grown h.1 hg hNu
  have hn : n = ll.length := by
    rcases h.1.2 with ⟨e, _⟩ | ⟨_, _, _, e, _⟩
    · cases e
    · injection e
  subst hn
  have hst : w'.grownBy (w'.setCell ⟨g, k, none⟩ u') (some g) := gb_set (p := ⟨g, k, none⟩) (gb_refl w' (some g)) (.inr rfl) _
  have s1 := World.ownsRow.stored hcs k u'
  have hneA : ∀ E, E ≠ 25 → NotE w' E (some g) := fun E hE => NotE.own (v := .slice (some ⟨g, 0, none⟩) ll.length cap) hcs hE
  have hne := hneA 3 (by decide)
  have hxl := h.len
  have hcell : ∃ u0, w'.cell? ⟨g, k, none⟩ = some u0 ∧ w'.frozen? ⟨g, k, none⟩ = false := by
    rcases hcs.2 with ⟨e0, hz⟩ | ⟨g', cap', cur, e0, hb, hh, hn, hm, hcs2, ht⟩
    · cases e0
    · injection e0 with e1 e2 e3
      injection e1 with e1
      injection e1 with e1
      subst e1
      have hB : Blk w' g 25 cur := hh
      exact ⟨_, by rw [hB.cell]; exact Array.getElem?_eq_getElem (by rw [hcs2]; omega), hB.frozen _⟩
  refine ⟨hcell, ⟨xs.set k u', ?_, fun i x hi => ?_⟩, hst, hneA⟩
  · rw [List.length_set]
    exact TS.of_own s1.1
  · by_cases hik : i = k
    · subst hik
      rw [List.getElem?_set_self hk] at hi
      obtain rfl : l' = x := by simpa using hi
      exact ⟨u', by rw [List.getElem?_set_self (by omega)], ho.ri.grown hst hne⟩
    · rw [List.getElem?_set_ne (fun e => hik e.symm)] at hi
      obtain ⟨y, k1, k2⟩ := h.2 i x hi
      refine ⟨y, by rw [List.getElem?_set_ne (fun e => hik e.symm)]; exact k1, ?_⟩
      have hyu : y.ownBlock = none ∨ y.ownBlock ≠ u.ownBlock := by
        cases hy : y.ownBlock with
        | none => exact .inl rfl
        | some b =>
          right
          intro e
          rw [Apart.iff] at hap
          rcases Nat.lt_or_gt_of_ne hik with hlt | hlt
          · exact hap i k y u b hlt k1 hu hy e.symm
          · exact hap k i u y b hlt hu k1 e.symm hy
      exact ((k2.apart_ hg hyu).ri).grown hst hne
theorem OwnI.apart2 {w w' : World} {base : Nat} {v u : Value} {l : List Int} (h : OwnI w base v l) (hg : w.grownBy w' u.ownBlock) (hne : ∀ b, v.ownBlock = some b → u.ownBlock ≠ some b) : OwnI w' base v l := by
  cases hv : v.ownBlock with
  | none => exact h.apart_ hg (.inl hv)
  | some b => exact h.apart_ hg (.inr (by rw [hv]; exact fun e => hne b hv e.symm))
theorem LX.apart2 {w w' : World} {base b0 : Nat} {v u : Value} {l : List Int} {ll : List (List Int)} {xs : List Value} (h : LX w base v ll xs) (hg : w.grownBy w' u.ownBlock) (hu : OwnI w b0 u l) (hne : ∀ b, u.ownBlock = some b → ∀ x ∈ xs, x.ownBlock ≠ some b) : LX w' base v ll xs := by
  cases e : u.ownBlock with
  | none => rw [e] at hg; exact h.new hg
  | some b =>
    rw [e] at hg
    obtain ⟨cur, hB⟩ := hu.block e
    exact h.apart_ hg hB (hne b e)
theorem Apart.cross {o u : Value} {xs ys : List Value} (h : Apart (o :: (xs ++ ys))) (hu : u ∈ xs) {b : Nat} (hb : u.ownBlock = some b) : (o.ownBlock ≠ some b) ∧ ∀ y ∈ ys, y.ownBlock ≠ some b := by
  obtain ⟨h1, h2⟩ := List.pairwise_cons.1 h
  refine ⟨fun e => h1 u (List.mem_append_left _ hu) b e hb, fun y hy => (List.pairwise_append.1 h2).2.2 u hu y hy b hb⟩
theorem wp_push_int_f {ops : Array Oper} {rest : List Oper} {o : Oper} {a : Act} {Q : Exit → Act → World → Prop} {w : World} {u : Int}
    (s x : Operand) (hgd : o.guard = none) (ho : o.op = .call { callee := .builtin .append, args := #[s, x], argTypes := #[25, 25] })
    {base : Nat} {v : Value} {l : List Int} (hown : OwnI w base v l) (hn : l.length ≤ 1000000000) (hbase : base ≤ w.heap.size)
    (hs : a.eval s = v) {N : Nat} (hx : a.eval x = .slice (some ⟨N, 0, none⟩) 1 1) (hN : N = w.heap.size)
    (h : ∀ v' w', OwnI w' base v' (l ++ [u]) → w.grownBy w' v.ownBlock → (v'.ownBlock = v.ownBlock ∨ ∃ b, v'.ownBlock = some b ∧ w.heap.size ≤ b) → wpList Tryz.prog ops Q rest (a.put o.dst v') w') :
    wpList Tryz.prog ops Q (o :: rest) a (w.alloc (.cells #[.int .i64 u] 3)) := by
  subst hN
  exact wp_push_fresh s x 25 (.int .i64 0) 1 8 Tryz.underlying25 info3 rfl (by decide) (by decide) hgd ho hown hn hbase rfl (by simp [Value.oneCell']) hs hx
    fun v' w' h1 h2 h3 => h v' w' (by unfold OwnI; simpa using h1) h2 (h3.imp id fun e => ⟨_, e, by omega⟩)
theorem CV.box_in {w w' : World} {B : Nat} {d k o r : Value} {c : Crew} (h : CV w (.agg #[d, k, o, r]) c) (hg : w.grownBy w' none) (hB : Blk w' B 27 #[d, k, o, r]) : BoxC w' B d k o r c := by
  have h' := h.new hg
  obtain ⟨d', k', o', r', e, q1, q2, q3, q4⟩ := h'
  injection e with e
  injection e with e
  injection e with e1 e
  injection e with e2 e
  injection e with e3 e
  injection e with e4 e
  subst e1 e2 e3 e4
  exact ⟨hB, q1, q2, q3, q4⟩
theorem row_short {nd : Node} {a : Int} (h : nodeFits nd a = true) : nd.row.length ≤ 1000 := by
  obtain ⟨_, _, _, h4⟩ := fits_kind h
  by_cases hk : nd.kind = 0
  · have := rowValid_len (h4 hk)
    omega
  · unfold nodeFits at h
    simp only [Bool.and_eq_true] at h
    have := h.2
    rw [if_neg hk] at this
    simp only [decide_eq_true_eq] at this
    omega
theorem Blk.past {w w' : World} {g : Nat} {t : TypeId} {cs : Array Value} {row : Option Nat} (h : Blk w g t cs) (hg : w.grownBy w' row) (hr : NotE w t row) : Blk w' g t cs := h.grown hg (fun e => hr g e.symm _ h)
/-- The copy stands in block X; the argument's box and the result's cell stand. -/
structure DoMid (w wx : World) (base X : Nat) (box : Array Value) (d k o r : Value) (D : List (List Int)) (N : List Int) (Rw : List (List Int)) (xs ys : List Value) : Prop where
  o : BoxO wx base X d k o r D N Rw xs ys
  b : Blk wx w.heap.size 27 box
  res : Blk wx (w.heap.size + 1) 27 #[.slice none 0 0, .slice none 0 0, .slice none 0 0, .slice none 0 0]
  g : w.grownBy wx none
theorem DoMid.new {w wx wy : World} {base X : Nat} {box : Array Value} {d k o r : Value} {D Rw : List (List Int)} {N : List Int} {xs ys : List Value} (M : DoMid w wx base X box d k o r D N Rw xs ys) (hg : wx.grownBy wy none) : DoMid w wy base X box d k o r D N Rw xs ys :=
  ⟨M.o.new hg, M.b.grown hg (by simp), M.res.grown hg (by simp), gb_trans M.g hg⟩
def CrewOutV (w : World) (c : Crew) (e : Ending) (w' : World) : Prop := ∃ v, e = .returned v ∧ CV w' v c ∧ w.grownBy w' none
/-- What doing a node asks of a crew. -/
structure DoPre (plan : List Node) (c : Crew) (k m : Nat) : Prop where
  pv : planValid plan = true
  k : k < c.deques.length
  m : m < plan.length
  cl : c.counts.length = plan.length
  cs : ∀ y ∈ c.counts, -1000 ≤ y ∧ y ≤ 1000
  rl : c.rows.length = plan.length
  d4 : c.deques.length ≤ 4
  dl : ∀ l ∈ c.deques, l.length ≤ 1000
  rw : ∀ l ∈ c.rows, l.length ≤ 1000
  dn : c.done.length ≤ 1000
def specDo (plan : List Node) (c : Crew) (k m : Nat) (nd : Node) : Crew :=
  { deques := c.deques.set k (c.deques.getD k [] ++ newReady plan c.counts m), counts := takeCounts plan c.counts m, done := c.done ++ [(m : Int)], rows := c.rows.set m (stepRow nd c.rows) }
set_option maxHeartbeats 8000000 in
set_option maxRecDepth 20000 in
theorem l14Do_any (pv v : Value) (plan : List Node) (c : Crew) (k m : Nat) (nd : Node) (w : World) (hp : RN w pv plan) (h : CV w v c) (hd : DoPre plan c k m) (hx : plan[m]? = some nd) :
    Calls Tryz.prog 91 #[pv, v, .int .i64 k, .int .i64 m] w (CrewOutV w (specDo plan c k m nd)) := by
  obtain ⟨A, n, cp, rfl, -, hn, -⟩ := hp.form'
  obtain ⟨A1, n1, c1, A2, n2, c2, A3, n3, c3, A4, n4, c4, rfl, h1, h2, h3, h4⟩ := h.form
  have hX := h.box
  have hn1 := h1.len
  have hn4 := h4.len
  have hk1 : k < n1 := by have := hd.k; omega
  have hm1 : m < n := by have := hd.m; omega
  have hm4 : m < n4 := by have := hd.rl; have := hd.m; omega
  have Hd := Lib.hid hd
  have Hx := Lib.hid hx
  have Hn := Lib.hid hn
  have Hn1 := Lib.hid hn1
  have Hn4 := Lib.hid hn4
  have hR0 := Blk.new (w.alloc (.cells #[.slice A1 n1 c1, .slice A2 n2 c2, .slice A3 n3 c3, .slice A4 n4 c4] 27)) 27 #[.slice none 0 0, .slice none 0 0, .slice none 0 0, .slice none 0 0]
  rw [World.size_alloc] at hR0
  have hX0 := hX.new (World.grownBy_alloc _ (.cells #[.slice none 0 0, .slice none 0 0, .slice none 0 0, .slice none 0 0] 27) none)
  have hgW : w.grownBy ((w.alloc (.cells #[.slice A1 n1 c1, .slice A2 n2 c2, .slice A3 n3 c3, .slice A4 n4 c4] 27)).alloc (.cells #[.slice none 0 0, .slice none 0 0, .slice none 0 0, .slice none 0 0] 27)) none := gb_alloc (gb_alloc (gb_refl w none) _) _
  have Hcv := Lib.hid h
  clear hn hn1 hn4 hd hx h1 h2 h3 h4 h hX
  go_enter Tryz.func91, Tryz.ntmps91
  go_upto_region 1 with fail
  generalize ((w.alloc (.cells #[.slice A1 n1 c1, .slice A2 n2 c2, .slice A3 n3 c3, .slice A4 n4 c4] 27)).alloc (.cells #[.slice none 0 0, .slice none 0 0, .slice none 0 0, .slice none 0 0] 27)) = W at hR0 hX0 hgW ⊢
  have hRlt := hR0.lt
  have hXlt := hX0.b.lt
  have d0 := hX0.d0
  have d1 := hX0.d1
  have d2 := hX0.d2
  have d3 := hX0.d3
  have hpW := hp.new hgW
  go_wp2_with fail
  refine (l14Copy_any _ c W hX0.cv (by have := Hd.out.d4; omega) (fun l hl => by have := Hd.out.dl l hl; omega) (by have := Hd.out.rl; have := planValid_len Hd.out.pv; omega) (fun l hl => by have := Hd.out.rw l hl; omega) (by have := Hd.out.cl; have := planValid_len Hd.out.pv; omega) (by have := Hd.out.dn; omega)).mono ?_
  rintro e w1 ⟨v1, rfl, ⟨d, kv, o, r, xs, ys, rfl, q1, q2, q3, q4, q5, q6⟩, hg1⟩
  have g1 := gb_trans hgW hg1
  have hX1 := hX0.b.grown hg1 (by simp)
  have hR1 := hR0.grown hg1 (by simp)
  have hsz1 := hg1.size
  have hszW := hgW.size
  obtain ⟨gd, capd, rfl, hcd, hbd⟩ := q1.form Hn1.out.symm (by omega)
  obtain ⟨gr, capr, rfl, hcr, hbr⟩ := q4.form Hn4.out.symm (by omega)
  obtain ⟨Ak, nk, ck, rfl⟩ := q2.val
  obtain ⟨Ao, no, co, rfl⟩ := q3.ri.val
  clear d0 d1 d2 d3 hX0 hR0 hgW hpW hg1 q2
  go_upto_region 2 with fail
  have hO := BoxO.lay (k := .slice Ak nk ck) q1 q3 q4 q5 q6
  have hgX := World.grownBy_alloc w1 (.cells #[.slice (some ⟨gd, 0, none⟩) n1 capd, .slice Ak nk ck, .slice Ao no co, .slice (some ⟨gr, 0, none⟩) n4 capr] 27) none
  generalize w1.alloc (.cells #[.slice (some ⟨gd, 0, none⟩) n1 capd, .slice Ak nk ck, .slice Ao no co, .slice (some ⟨gr, 0, none⟩) n4 capr] 27) = w2 at hO hgX ⊢
  have hX2 := hX1.grown hgX (by simp)
  have hR2 := hR1.grown hgX (by simp)
  have g2 := gb_trans g1 hgX
  clear hX1 hR1 q1 q3 q4 q5 q6 g1 hgX
  have hRX : w.heap.size + 1 < w1.heap.size := by omega
  have hbW : w.heap.size ≤ W.heap.size := hszW
  generalize w1.heap.size = X at hO hRX hsz1 ⊢
  generalize W.heap.size = base at hO hbd hbr hbW hsz1 hRlt hXlt
  obtain ⟨gp, ox, nd', fv, rv, rfl, hnd, e0, e1, e2, hf, hr⟩ := (hp.new g2).at_ hm1
  obtain rfl : nd = nd' := by
    have := Hx.out
    rw [hnd] at this
    injection this with this
    exact this.symm
  have hnode := planValid_node Hd.out.pv hnd
  have hf2 := hnode.2.1
  have Hin : Hid (nd.kind ≠ 0 → ∀ y ∈ nd.frm, 0 ≤ y ∧ y < c.rows.length) := by
    intro _ y hy
    have := nodeFits_mem hnode.1 hy
    have := Hd.out.rl
    have := Hd.out.m
    omega
  have hxr : nd.row.length ≤ 1000 := row_short hnode.1
  have hrl : c.rows.length ≤ 1000 := by have := Hd.out.rl; have := planValid_len Hd.out.pv; omega
  obtain ⟨Af, nf, cf, rfl⟩ := hf.val
  obtain ⟨Arv, nrv, crv, rfl⟩ := hr.val
  have hDr : w2.grownBy w2.drew none := gb_drew (gb_refl _ none)
  have hB2 := Hcv.out.box_in g2 hX2
  have cc3 := hB2.d3
  have x3 := hO.x.cell 3
  have hfD := hf.new hDr
  have hrD := hr.new hDr
  have hroD := hB2.ro.new hDr
  have hOD := hO.new hDr
  have hmR : m < c.rows.length := by rw [← Hn4.out]; exact hm4
  have hszD : base ≤ w2.drew.heap.size := by have := (hO.dq.lt gd rfl); have : w2.drew.heap.size = w2.heap.size := rfl; omega
  have hm1i : (m : Int) < (n : Int) := by omega
  have hm4i : (m : Int) < (n4 : Int) := by omega
  clear hnode hnd hf hr
  go_cut [] (fun wx => ∃ ys', DoMid w wx base X #[.slice A1 n1 c1, .slice A2 n2 c2, .slice A3 n3 c3, .slice A4 n4 c4] (.slice (some ⟨gd, 0, none⟩) n1 capd) (.slice Ak nk ck) (.slice Ao no co) (.slice (some ⟨gr, 0, none⟩) n4 capr) c.deques c.done (c.rows.set m (stepRow nd c.rows)) xs ys')
  case first =>
    go_region_law (go_simp; go_at_call 63; refine (l4Step_any _ _ nd c.rows _ ⟨_, _, rfl, by exact hfD, by exact hrD⟩ (by exact hroD) hf2 Hin.out hrl hxr).mono ?_; rintro e w3 ⟨v3, rfl, ho3, hg3⟩; have hO3 := hOD.new hg3; have x33 := hO3.x.cell 3; obtain ⟨⟨u0, cR, fR⟩, hst3, M3⟩ := hO3.setRow hmR (ho3.lower hszD) (fun u hu g hg => (hOD.lts u hu g hg).2) (fun g hg => (ho3.lt g hg).1); have hEc : NotE w3 27 (some gr) := hO3.ro.notE (by decide); have g4 := gb_new (gb_trans g2 (gb_trans hDr hg3)) hst3 (fun g e => by cases e; exact .inl (Nat.le_trans hbW hbr)); have b4 := (hX2.grown (gb_trans hDr hg3) (by simp)).past hst3 hEc; have r4 := (hR2.grown (gb_trans hDr hg3) (by simp)).past hst3 hEc; obtain ⟨A5, n5, c5, rfl⟩ := ho3.ri.val)
    all_goals
      go_wp2_with fail
      go_meet
      exact ⟨_, M3, b4, r4, g4⟩
  case rest =>
    obtain ⟨ys', M⟩ := hcut
    clear hO hOD hX2 hR2 g2 hB2 hfD hrD hroD x3 cc3 e0 e1 e2
    have hdl : c.done.length ≤ 1000 := Hd.out.dn
    have x2 := M.o.x.cell 2
    have hszc : base ≤ wc.heap.size := by have := (M.o.dq.lt gd rfl); omega
    have hMdn := M.o.dn
    go_wp2_with (at_builtin; go_must (refine wp_push_int_f (.tmp 26) (.tmp 28) rfl rfl hMdn (by omega) hszc rfl rfl rfl ?_))
    intro v5 w5 hown5 hg5 hb5
    have hne5 : NotE wc 27 (Value.ownBlock (.slice Ao no co)) := M.o.dn.notE (by decide)
    obtain ⟨x25, f25, O5⟩ := M.o.more hg5 hown5 hb5
    have hg5' := M.o.dn.gb M.g hg5 hbW
    have b5 := (M.b.past hg5 hne5)
    have r5 := (M.res.past hg5 hne5)
    have hx5 := M.o.x.past hg5 hne5
    have hst5 : w5.grownBy (w5.setCell ⟨X, 2, none⟩ v5) (some X) := gb_set (p := ⟨X, 2, none⟩) (gb_refl w5 (some X)) (.inr rfl) _
    have g6 : w.grownBy (w5.setCell ⟨X, 2, none⟩ v5) none := gb_new hg5' hst5 (fun g e => by cases e; exact .inl (by omega))
    have b6 := b5.grown hst5 (by simp; omega)
    have r6 := r5.grown hst5 (by simp; omega)
    obtain ⟨A5, n5, c5, rfl⟩ := hown5.ri.val
    clear hown5 hb5 hne5 hg5' b5 r5 hx5 hMdn hg5 x2 M hst5
    go_upto_region 4 with fail
    generalize w5.setCell ⟨X, 2, none⟩ (.slice A5 n5 c5) = w6 at O5 g6 b6 r6 ⊢
    have M6 : DoMid w w6 base X _ _ _ _ _ _ _ _ _ _ := ⟨O5, b6, r6, g6⟩
    clear O5 x25 f25 b6 r6 g6
    have d1 := M6.b.cell 1
    have hcl : c.counts.length = plan.length := Hd.out.cl
    have hB6 := Hcv.out.box_in M6.g M6.b
    go_wp2_with fail
    refine (l11Done_any _ _ plan c.counts m w6 (hp.new M6.g) hB6.ct Hd.out.pv hcl Hd.out.cs).mono ?_
    rintro e w7 ⟨cv, uv, rfl, hcs7, hrd7, hg7⟩
    have hgu : ∀ u ∈ xs, ∀ g, u.ownBlock = some g → g < w6.heap.size := fun u hu g hg => (M6.o.dq.lts u hu g hg).2
    have M7 := M6.new hg7
    obtain ⟨Ac, nc, cc, rfl⟩ := hcs7.ri.val
    obtain ⟨Au, nu, cu, rfl⟩ := hrd7.ri.val
    have hs67 : w6.heap.size ≤ w7.heap.size := hg7.size
    generalize w6.heap.size = s6 at hcs7 hrd7 hgu hs67
    clear d1 hB6 M6 hg7
    have x1 := M7.o.x.cell 1
    have y1 := M7.o.x.frozen 1
    have hst8 : w7.grownBy (w7.setCell ⟨X, 1, none⟩ (.slice Ac nc cc)) (some X) := gb_set (p := ⟨X, 1, none⟩) (gb_refl w7 (some X)) (.inr rfl) _
    have O8 := M7.o.put (k' := .slice Ac nc cc)
    have hn8 : NotE w7 3 (some X) := NotE.blk M7.o.x (by decide)
    have hcs8 : OwnI _ _ _ _ := hcs7.grown hst8 hn8
    have hrd8 : OwnI _ _ _ _ := hrd7.grown hst8 hn8
    have b8 := M7.b.grown hst8 (by simp; omega)
    have r8 := M7.res.grown hst8 (by simp; omega)
    have g8 : w.grownBy (w7.setCell ⟨X, 1, none⟩ (.slice Ac nc cc)) none := gb_new M7.g hst8 (fun g e => by cases e; exact .inl (by omega))
    go_upto_region 6 with fail
    clear x1 y1 hn8 M7 hcs7 hrd7
    have hs68 : s6 ≤ (w7.setCell ⟨X, 1, none⟩ (.slice Ac nc cc)).heap.size := Nat.le_trans hs67 hst8.size
    clear hst8
    generalize w7.setCell ⟨X, 1, none⟩ (.slice Ac nc cc) = w8 at O8 hcs8 hrd8 b8 r8 g8 hs68 ⊢
    have hkD : k < c.deques.length := Hd.out.k
    have hal := O8.al
    have hapx : Apart xs := (List.pairwise_cons.1 hal).2 |> Apart.left
    obtain ⟨l0, u, hl0, hu, hcu, hou⟩ := O8.dq.at_ hkD
    have hl0len : l0.length ≤ 1000 := Hd.out.dl l0 (List.mem_of_getElem? hl0)
    have hnr : (newReady plan c.counts m).length ≤ 1000 := by
      have h1 := List.length_filter_le (fun i => has plan i (m : Int) && decide (c.counts.getD i 0 = 1)) (List.range plan.length)
      have h2 := planValid_len Hd.out.pv
      unfold newReady
      rw [List.length_map]
      rw [List.length_range] at h1
      omega
    have Hget : Hid (c.deques.getD k [] = l0) := by show _ = _; rw [List.getD_eq_getElem?_getD, hl0]; rfl
    obtain ⟨Ae, ne, ce, rfl⟩ := hou.ri.val
    have x0 := O8.x.cell 0
    have hk1i : (k : Int) < (n1 : Int) := by omega
    have hD8 : w8.grownBy w8.drew none := gb_drew (gb_refl _ none)
    have houD := hou.new hD8
    have hrdD := hrd8.ri.new hD8
    have hlen : l0.length + (newReady plan c.counts m).length ≤ 1000000000 := by omega
    have hb8 : base ≤ w8.drew.heap.size := by have : w8.drew.heap.size = w8.heap.size := rfl; have := (O8.dq.lt gd rfl); omega
    have HO8 := Lib.hid O8
    go_cut [] (fun wx => Blk wx X 27 #[.slice (some ⟨gd, 0, none⟩) n1 capd, .slice Ac nc cc, .slice A5 n5 c5, .slice (some ⟨gr, 0, none⟩) n4 capr] ∧ Blk wx (w.heap.size + 1) 27 #[.slice none 0 0, .slice none 0 0, .slice none 0 0, .slice none 0 0] ∧ w.grownBy wx none ∧
      RL wx (.slice (some ⟨gd, 0, none⟩) n1 capd) (c.deques.set k (l0 ++ newReady plan c.counts m)) ∧ RI wx (.slice Ac nc cc) (takeCounts plan c.counts m) ∧ RI wx (.slice A5 n5 c5) (c.done ++ [(m : Int)]) ∧ RL wx (.slice (some ⟨gr, 0, none⟩) n4 capr) (c.rows.set m (stepRow nd c.rows)))
    case first =>
      go_region_law (refine step_extend_ints (w := w8.drew) (base := base) (v := .slice Ae ne ce) (xv := .slice Au nu cu) (l0 := l0) (l := newReady plan c.counts m) (.tmp 48) (.tmp 49) rfl rfl houD hrdD hlen hb8 rfl rfl ?_; intro v9 w9 hown9 hg9; have hEc : NotE w8.drew 27 (Value.ownBlock (.slice Ae ne ce)) := houD.notE (by decide); have hx9 := (O8.x.grown hD8 (by simp)).past hg9 hEc; have x90 := hx9.cell 0; obtain ⟨⟨u0, cR, fR⟩, hRL, hst9, hN9⟩ := (O8.dq.new hD8).turn hkD hu hg9 hapx hown9 ⟨_, houD⟩; obtain ⟨A9, n9, c9, rfl⟩ := hown9.ri.val)
      all_goals
        go_wp2_with fail
        go_meet
        have hum := List.mem_of_getElem? hu
        have hE9 := hN9 27 (by decide)
        have hI9 := hN9 3 (by decide)
        have g9 := gb_new (gb_trans g8 hD8) hg9 (fun g e => .inl (Nat.le_trans hbW (houD.lt g e).1))
        have c9 := (hcs8.new hD8).apart2 hg9 (fun b hb e => by have := (hcs8.lt b hb).1; have := hgu _ hum b e; omega)
        have n9' := (O8.dn.new hD8).apart2 hg9 (fun b hb e => (hal.cross hum e).1 hb)
        have r9 := (O8.ro.new hD8).apart2 hg9 houD (fun b hb => (hal.cross hum hb).2)
        exact ⟨hx9.past hst9 hE9, ((r8.grown hD8 (by simp)).past hg9 hEc).past hst9 hE9, gb_new g9 hst9 (fun g e => by cases e; exact .inl (Nat.le_trans hbW hbd)), hRL, c9.ri.grown hst9 hI9, n9'.ri.grown hst9 hI9,
          (r9.far hst9 hI9 (fun e => O8.dr gd rfl e)).rl⟩
    case rest =>
      obtain ⟨hx, hr, hg, hdq, hct, hdn, hro⟩ := hcut
      have x0 := hx.cell 0
      have x1 := hx.cell 1
      have x2 := hx.cell 2
      have x3 := hx.cell 3
      have y0 := hr.cell 0
      have y1 := hr.cell 1
      have y2 := hr.cell 2
      have y3 := hr.cell 3
      have f0 := hr.frozen 0
      have f1 := hr.frozen 1
      have f2 := hr.frozen 2
      have f3 := hr.frozen 3
      have hst := gb_set4 wc (w.heap.size + 1) (.slice (some ⟨gd, 0, none⟩) n1 capd) (.slice Ac nc cc) (.slice A5 n5 c5) (.slice (some ⟨gr, 0, none⟩) n4 capr)
      have hne : NotE wc 3 (some (w.heap.size + 1)) := NotE.blk hr (by decide)
      have hne2 : NotE wc 25 (some (w.heap.size + 1)) := NotE.blk hr (by decide)
      have hfin : CrewOutV w (specDo plan c k m nd) (.returned (.agg #[.slice (some ⟨gd, 0, none⟩) n1 capd, .slice Ac nc cc, .slice A5 n5 c5, .slice (some ⟨gr, 0, none⟩) n4 capr])) ((((wc.setCell ⟨w.heap.size + 1, 0, none⟩ (.slice (some ⟨gd, 0, none⟩) n1 capd)).setCell ⟨w.heap.size + 1, 1, none⟩ (.slice Ac nc cc)).setCell ⟨w.heap.size + 1, 2, none⟩ (.slice A5 n5 c5)).setCell ⟨w.heap.size + 1, 3, none⟩ (.slice (some ⟨gr, 0, none⟩) n4 capr)) := by
        refine ⟨_, rfl, ⟨_, _, _, _, rfl, ?_, hct.grown hst hne, hdn.grown hst hne, hro.grown hst hne hne2⟩, gb_new hg hst (fun g e => by cases e; exact .inl (Nat.le_succ _))⟩
        have := hdq.grown hst hne hne2
        unfold specDo
        rw [Hget.out]
        exact this
      have Hfin := Lib.hid hfin
      clear hfin hx hr hdq hct hdn hro hst hne hne2 HO8 O8 hcs8 hrd8 b8 r8 houD hrdD hou
      go_wp2_with fail
      refine bodyPost_ret (v := .agg #[.slice (some ⟨gd, 0, none⟩) n1 capd, .slice Ac nc cc, .slice A5 n5 c5, .slice (some ⟨gr, 0, none⟩) n4 capr]) (by simp [results, Tryz.results91, go_sem, y0, y1, y2, y3]) rfl ?_
      exact Hfin.out
end Go.Proofs.YtihobnheficpjaaGreat
namespace Go.Proofs.YtihobnheficpjaaGreat
open Go.RowKit

theorem row_len {plan : List Node} {c : Crew} (h : CrewOk plan c) : ∀ l ∈ c.rows, l.length ≤ 1000 := by
  intro l hl
  obtain ⟨i, hi, rfl⟩ := List.getElem_of_mem hl
  have hp : i < plan.length := by rw [← h.rl]; exact hi
  have := h.rows i hp
  rw [List.getElem?_eq_getElem hi] at this
  injection this with this
  rw [this]
  unfold rowWant
  split
  · have := rowValid_len (valAt_valid h.pv hp).1
    omega
  · simp
theorem deque_len {plan : List Node} {c : Crew} (h : CrewOk plan c) : ∀ l ∈ c.deques, l.length ≤ 10 := by
  intro l hl
  obtain ⟨i, hi, rfl⟩ := List.getElem_of_mem hl
  exact (dequeValid_iff.1 (h.deque (List.getElem?_eq_getElem hi))).1
/-- What doing a node asks, where the crew is valid and one deque has been shortened. -/
theorem doPre_of {plan : List Node} {c : Crew} (h : CrewOk plan c) {k m j : Nat} {r : List Int} (hk : k < c.deques.length) (hm : m < plan.length) (hr : r.length ≤ 10) : DoPre plan { c with deques := c.deques.set j r } k m := by
  have hp := planValid_len h.pv
  refine ⟨h.pv, by show k < (c.deques.set j r).length; rw [List.length_set]; exact hk, hm, by show c.counts.length = _; rw [h.counts, lefts_len], ?_, h.rl, by show (c.deques.set j r).length ≤ 4; rw [List.length_set]; exact h.d4, ?_, (show ∀ l ∈ c.rows, l.length ≤ 1000 from row_len h), ?_⟩
  · show ∀ y ∈ c.counts, _
    rw [h.counts]
    exact lefts_in h.pv _
  · show ∀ l ∈ c.deques.set j r, _
    intro l hl
    rcases List.mem_or_eq_of_mem_set hl with hl | rfl
    · have := deque_len h l hl
      omega
    · omega
  · have := done_le h
    show c.done.length ≤ 1000
    omega
theorem specDo_eq {plan : List Node} {c : Crew} (h : CrewOk plan c) {L : List (List Int)} {k m : Nat} {nd : Node} (hx : plan[m]? = some nd) (hr : (m : Int) ∈ readyOf plan c.done) : specDo plan { c with deques := L } k m nd = doNode plan { c with deques := L } k (m : Int) := by
  unfold specDo doNode
  rw [show ({ c with deques := L } : Crew).rows = c.rows from rfl, step_ready h hx hr]
  rfl
theorem BoxO.setDeq {w : World} {base X gd n cap k : Nat} {kv o r f : Value} {D Rw : List (List Int)} {N C l : List Int} {xs ys : List Value} (h : BoxO w base X (.slice (some ⟨gd, 0, none⟩) n cap) kv o r D N Rw xs ys) (hk : k < D.length) (hf : OwnI w base f l) (hC : RI w kv C) :
    (∃ u, w.cell? ⟨gd, k, none⟩ = some u ∧ w.frozen? ⟨gd, k, none⟩ = false) ∧ w.grownBy (w.setCell ⟨gd, k, none⟩ f) (some gd) ∧ NotE w 27 (some gd) ∧ base ≤ gd ∧
    Blk (w.setCell ⟨gd, k, none⟩ f) X 27 #[.slice (some ⟨gd, 0, none⟩) n cap, kv, o, r] ∧ CV (w.setCell ⟨gd, k, none⟩ f) (.agg #[.slice (some ⟨gd, 0, none⟩) n cap, kv, o, r]) ⟨D.set k l, C, N, Rw⟩ := by
  have hst : w.grownBy (w.setCell ⟨gd, k, none⟩ f) (some gd) := gb_set (p := ⟨gd, k, none⟩) (gb_refl w (some gd)) (.inr rfl) _
  have hI : NotE w 3 (some gd) := h.dq.notE (by decide)
  have hE : NotE w 27 (some gd) := h.dq.notE (by decide)
  exact ⟨h.dq.cell hk, hst, hE, (h.dq.lt gd rfl).1, h.x.past hst hE, _, _, _, _, rfl, (h.dq.set_ hk hf).rl, hC.grown hst hI, (h.dn.grown hst hI).ri, (h.ro.far hst hI (h.dr gd rfl)).rl⟩
theorem pop_mem {d l : List Int} {x : Int} (h : dequePop d = some (l, x)) : x ∈ d ∧ l.length ≤ d.length := by
  unfold dequePop at h
  split at h
  · cases hg : d.getLast? with
    | none => rw [hg] at h; cases h
    | some y =>
      rw [hg] at h
      simp only [Option.map_some, Option.some.injEq, Prod.mk.injEq] at h
      obtain ⟨rfl, rfl⟩ := h
      exact ⟨List.mem_of_getLast? hg, by simp⟩
  · cases h
theorem steal_mem {d l : List Int} {x : Int} (h : dequeSteal d = some (l, x)) : x ∈ d ∧ l.length ≤ d.length := by
  unfold dequeSteal at h
  split at h
  · cases d with
    | nil => simp at h
    | cons y r =>
      simp only [List.head?_cons, Option.map_some, List.drop_succ_cons, List.drop_zero, Option.some.injEq, Prod.mk.injEq] at h
      obtain ⟨rfl, rfl⟩ := h
      exact ⟨by simp, by simp⟩
  · cases h
/-- The node that a turn takes. -/
theorem taken_node {plan : List Node} {c : Crew} (H : CrewOk plan c) {k : Nat} {d : List Int} {x : Int} (hd : c.deques[k]? = some d) (hx : x ∈ d) : ∃ (m : Nat) (nd : Node), x = m ∧ plan[m]? = some nd ∧ (m : Int) ∈ readyOf plan c.done ∧ m < plan.length := by
  have hxr : x ∈ readyOf plan c.done := (H.dq.mem_iff).1 (List.mem_flatten.2 ⟨d, List.mem_of_getElem? hd, hx⟩)
  obtain ⟨m, hm, rfl, _⟩ := (mem_readyOf H.pv).1 hxr
  exact ⟨m, plan[m], rfl, List.getElem?_eq_getElem hm, hxr, hm⟩
/-- What a turn answers. -/
def TurnOut (w : World) (r : Option Crew) (e : Ending) (w' : World) : Prop := match r with
  | some c => ∃ v, e = .returned (.tuple #[v, .bool true]) ∧ CV w' v c ∧ w.grownBy w' none
  | none => ∃ v, e = .returned (.tuple #[v, .bool false]) ∧ CV w' v crew0 ∧ w.grownBy w' none
theorem turnFail {w wx : World} (hg : w.grownBy wx none) : TurnOut w none (.returned (.tuple #[.agg #[.slice none 0 0, .slice none 0 0, .slice none 0 0, .slice none 0 0], .bool false])) ((((wx.setCell ⟨w.heap.size + 1, 0, none⟩ (.slice none 0 0)).setCell ⟨w.heap.size + 1, 1, none⟩ (.slice none 0 0)).setCell ⟨w.heap.size + 1, 2, none⟩ (.slice none 0 0)).setCell ⟨w.heap.size + 1, 3, none⟩ (.slice none 0 0)) :=
  ⟨_, rfl, CV.zero _, gb_new hg (gb_set4 wx (w.heap.size + 1) (.slice none 0 0) (.slice none 0 0) (.slice none 0 0) (.slice none 0 0)) (fun g e => by cases e; exact .inl (Nat.le_succ _))⟩
theorem turnGive {w wx : World} {c : Crew} {d k o r : Value} (hg : w.grownBy wx none) (hR : Blk wx (w.heap.size + 1) 27 #[.slice none 0 0, .slice none 0 0, .slice none 0 0, .slice none 0 0]) (hc : CV wx (.agg #[d, k, o, r]) c) : TurnOut w (some c) (.returned (.tuple #[.agg #[d, k, o, r], .bool true])) ((((wx.setCell ⟨w.heap.size + 1, 0, none⟩ d).setCell ⟨w.heap.size + 1, 1, none⟩ k).setCell ⟨w.heap.size + 1, 2, none⟩ o).setCell ⟨w.heap.size + 1, 3, none⟩ r) :=
  have hst := gb_set4 wx (w.heap.size + 1) d k o r
  ⟨_, rfl, hc.grown hst (NotE.blk hR (by decide)) (NotE.blk hR (by decide)), gb_new hg hst (fun g e => by cases e; exact .inl (Nat.le_succ _))⟩
/-- The argument's box and the result's cell as a turn begins. -/
structure Begun (w W : World) (d k o r : Value) (c : Crew) : Prop where
  b : BoxC W w.heap.size d k o r c
  res : Blk W (w.heap.size + 1) 27 #[.slice none 0 0, .slice none 0 0, .slice none 0 0, .slice none 0 0]
  g : w.grownBy W none
theorem Begun.start {w : World} {d k o r : Value} {c : Crew} (h : CV w (.agg #[d, k, o, r]) c) : Begun w ((w.alloc (.cells #[d, k, o, r] 27)).alloc (.cells #[.slice none 0 0, .slice none 0 0, .slice none 0 0, .slice none 0 0] 27)) d k o r c := by
  have hR0 := Blk.new (w.alloc (.cells #[d, k, o, r] 27)) 27 #[.slice none 0 0, .slice none 0 0, .slice none 0 0, .slice none 0 0]
  rw [World.size_alloc] at hR0
  exact ⟨h.box.new (World.grownBy_alloc _ _ none), hR0, gb_alloc (gb_alloc (gb_refl w none) _) _⟩
theorem Begun.new {w W W' : World} {d k o r : Value} {c : Crew} (B : Begun w W d k o r c) (hg : W.grownBy W' none) : Begun w W' d k o r c := ⟨B.b.new hg, B.res.grown hg (by simp), gb_trans B.g hg⟩
theorem turnRun_bad {plan : List Node} {c : Crew} {w : Int} (h : crewValid plan c = false) : turnRun plan c w = none := by unfold turnRun; rw [h]; rfl
theorem turnRun_out {plan : List Node} {c : Crew} {w : Int} (h : isWorker c w = false) : turnRun plan c w = none := by unfold turnRun; rw [h, Bool.and_false]; rfl
theorem turnRun_eq {plan : List Node} {c : Crew} {k : Nat} (hv : crewValid plan c = true) (hk : k < c.deques.length) {d : List Int} (hd : c.deques[k]? = some d) : turnRun plan c (k : Int) = (dequePop d).map fun x => doNode plan { c with deques := c.deques.set k x.1 } k x.2 := by
  have H := crewValid_iff.1 hv
  have hw : isWorker c (k : Int) = true := isWorker_iff.2 ⟨Int.natCast_nonneg k, by omega⟩
  unfold turnRun dequePop
  rw [hv, hw, H.deque hd, Bool.and_true, if_pos rfl, if_pos rfl, Int.toNat_natCast, List.getD_eq_getElem?_getD, hd]
  simp only [Option.getD_some]
  cases d.getLast? <;> rfl
set_option maxHeartbeats 3200000 in
set_option maxRecDepth 20000 in
theorem specTurnRun_any (pv v : Value) (plan : List Node) (c : Crew) (wk : Int) (w : World) (hp : RN w pv plan) (h : CV w v c) (hpl : plan.length ≤ 1000000000) (hfit : c.deques.length ≤ 1048576 ∧ ∀ d ∈ c.deques, d.length ≤ 1048576) :
    Calls Tryz.prog 70 #[pv, v, .int .i64 wk] w (TurnOut w (turnRun plan c wk)) := by
  obtain ⟨A, n, cp, rfl, -, hn, -⟩ := hp.form'
  obtain ⟨A1, n1, c1, A2, n2, c2, A3, n3, c3, A4, n4, c4, rfl, h1, -, -, -⟩ := h.form
  have B0 := Begun.start h
  have hn1 := h1.len
  have hn1b : n1 ≤ 1048576 := by omega
  have Hn1 := Lib.hid hn1
  have Hfit := Lib.hid hfit.2
  clear hn hn1 h1 h hfit
  by_cases hv : crewValid plan c = true
  · have Hv := Lib.hid hv
    by_cases hin : 0 ≤ wk ∧ wk ≤ (n1 : Int) - 1
    · have Hin : Hid ((decide (0 ≤ wk) && decide (wk ≤ (n1 : Int) - 1)) = true) := by show _ = _; simp [hin.1, hin.2]
      obtain ⟨k, rfl⟩ := Int.eq_ofNat_of_zero_le hin.1
      have hk : k < n1 := by omega
      clear hv hin
      go_enter Tryz.func70, Tryz.ntmps70
      go_upto_region 1 with fail
      generalize ((w.alloc (.cells #[.slice A1 n1 c1, .slice A2 n2 c2, .slice A3 n3 c3, .slice A4 n4 c4] 27)).alloc (.cells #[.slice none 0 0, .slice none 0 0, .slice none 0 0, .slice none 0 0] 27)) = W at B0 ⊢
      have d0 := B0.b.d0
      have d1 := B0.b.d1
      have d2 := B0.b.d2
      have d3 := B0.b.d3
      go_wp2_with fail
      refine (specCrewValid_b _ _ plan c W (hp.new B0.g) B0.b.cv hpl Hfit.out Hv.out).mono ?_
      rintro e w1 ⟨rfl, hg1⟩
      have B1 := B0.new hg1
      clear B0 hg1 d0 d1 d2 d3
      have d0 := B1.b.d0
      have d1 := B1.b.d1
      have d2 := B1.b.d2
      have d3 := B1.b.d3
      have hkD : k < c.deques.length := by rw [← Hn1.out]; exact hk
      obtain ⟨g, o, d, Bd, md, ed, rfl, hd, q0, hrd, -, -, -⟩ := B1.b.dq.at_ hk
      have hki : (k : Int) < (n1 : Int) := by omega
      have Heq := Lib.hid (turnRun_eq Hv.out hkD hd)
      have Hd := Lib.hid hd
      clear hd
      go_wp2_with fail
      refine (l6In_b _ _ _ _ Hin.out).mono ?_
      rintro e w2 ⟨rfl, rfl⟩
      go_wp2_with fail
      refine (specDequePop_any _ d w1 hrd).mono ?_
      cases hpop : dequePop d with
      | none =>
        rintro e w2 ⟨u, y, rfl, hu, hg2⟩
        have B2 := B1.new hg2
        have Hr : Hid (turnRun plan c (k : Int) = none) := by show _ = _; rw [Heq.out, hpop]; rfl
        have y0 := B2.res.cell 0
        have y1 := B2.res.cell 1
        have y2 := B2.res.cell 2
        have y3 := B2.res.cell 3
        have f0 := B2.res.frozen 0
        have f1 := B2.res.frozen 1
        have f2 := B2.res.frozen 2
        have f3 := B2.res.frozen 3
        have hfin := Lib.hid (turnFail B2.g)
        clear hpop B1 B2 d0 d1 d2 d3 hg2 q0 hrd
        obtain ⟨Au, nu, cu, rfl⟩ := hu.val
        go_wp2_with fail
        refine bodyPost_ret (v := .tuple #[.agg #[.slice none 0 0, .slice none 0 0, .slice none 0 0, .slice none 0 0], .bool false]) (by simp [results, Tryz.results70, go_sem, y0, y1, y2, y3]) rfl ?_
        rw [Hr.out]
        exact hfin.out
      | some lx =>
        obtain ⟨l, x⟩ := lx
        rintro e w2 ⟨u, rfl, hu, hg2⟩
        have H := crewValid_iff.1 Hv.out
        obtain ⟨hxd, hll⟩ := pop_mem hpop
        have hl10 : l.length ≤ 10 := Nat.le_trans hll (deque_len H d (List.mem_of_getElem? Hd.out))
        obtain ⟨m, nd, rfl, hnd, hrdy, hmp⟩ := taken_node H Hd.out hxd
        have HH := Lib.hid H
        have Hr : Hid (turnRun plan c (k : Int) = some (specDo plan { c with deques := c.deques.set k l } k m nd)) := by show _ = _; rw [Heq.out, hpop, specDo_eq H hnd hrdy]; rfl
        have Hnd := Lib.hid hnd
        have hDo : Hid (DoPre plan { c with deques := c.deques.set k l } k m) := doPre_of H hkD hmp hl10
        have B2 := B1.new hg2
        have hs1 : w.heap.size ≤ w1.heap.size := B1.g.size
        have hu' := hu.lower hs1
        obtain ⟨Au, nu, cu, rfl⟩ := hu.ri.val
        clear hpop H hxd hll hl10 hnd hrdy hmp hu B1 hg2 d0 d1 d2 d3 q0 hrd
        have d0 := B2.b.d0
        have d1 := B2.b.d1
        have d2 := B2.b.d2
        have d3 := B2.b.d3
        go_wp2_with fail
        refine (l14Copy_any _ c w2 B2.b.cv (by have := HH.out.d4; omega) (fun l hl => by have := deque_len HH.out l hl; omega) (by have := HH.out.rl; have := planValid_len HH.out.pv; omega) (fun l hl => by have := row_len HH.out l hl; omega) (by have := HH.out.counts; rw [this, lefts_len]; have := planValid_len HH.out.pv; omega) (by have := done_le HH.out; have := planValid_len HH.out.pv; omega)).mono ?_
        rintro e w3 ⟨v3, rfl, ⟨dv, kv, ov, rv, xs, ys, rfl, q1, q2, q3, q4, q5, q6⟩, hg3⟩
        have B3 := B2.new hg3
        have hu3 := hu'.new hg3
        have hs2 : w.heap.size ≤ w2.heap.size := B2.g.size
        obtain ⟨gd, capd, rfl, hcd, hbd⟩ := q1.form Hn1.out.symm (by omega)
        obtain ⟨Ar, nr, cr, rfl⟩ := q4.rl.val
        obtain ⟨Ak, nk, ck, rfl⟩ := q2.val
        obtain ⟨Ao, no, co, rfl⟩ := q3.ri.val
        clear d0 d1 d2 d3 B2 hu' hg3
        go_upto_region 7 with fail
        have hO := BoxO.lay (k := .slice Ak nk ck) (q1.low hs2) (q3.lower hs2) (q4.low hs2) q5 q6
        have hgX := World.grownBy_alloc w3 (.cells #[.slice (some ⟨gd, 0, none⟩) n1 capd, .slice Ak nk ck, .slice Ao no co, .slice Ar nr cr] 27) none
        have q2' := q2.new hgX
        have hu4 := hu3.new hgX
        have B4 := B3.new hgX
        have hRX : w.heap.size + 1 < w3.heap.size := B3.res.lt
        generalize w3.alloc (.cells #[.slice (some ⟨gd, 0, none⟩) n1 capd, .slice Ak nk ck, .slice Ao no co, .slice Ar nr cr] 27) = w4 at hO hgX q2' hu4 B4 ⊢
        generalize w3.heap.size = X at hO hRX ⊢
        obtain ⟨⟨u0, cR, fR⟩, hst5, hE5, hbd5, hx5, hcv5⟩ := hO.setDeq hkD hu4 q2'
        have x0 := hO.x.cell 0
        have res5 := B4.res.past hst5 hE5
        have g5 := gb_new B4.g hst5 (fun g e => by cases e; exact .inl hbd5)
        clear q1 q2 q3 q4 q5 q6 hgX B3 hu3
        go_upto_region 8 with fail
        clear cR fR x0 hst5 hE5 q2' hu4 B4 hO
        generalize w4.setCell ⟨gd, k, none⟩ (.slice Au nu cu) = w5 at hx5 hcv5 res5 g5 ⊢
        have x0 := hx5.cell 0
        have x1 := hx5.cell 1
        have x2 := hx5.cell 2
        have x3 := hx5.cell 3
        go_wp2_with fail
        refine (l14Do_any _ _ plan { c with deques := c.deques.set k l } k m nd w5 (hp.new g5) hcv5 hDo.out Hnd.out).mono ?_
        rintro e w6 ⟨v6, rfl, hcv6, hg6⟩
        have res6 := res5.grown hg6 (by simp)
        have g6 := gb_trans g5 hg6
        obtain ⟨B1', m1', e1', B2', m2', e2', B3', m3', e3', B4', m4', e4', rfl, -, -, -, -⟩ := hcv6.form
        have hfin := Lib.hid (turnGive g6 res6 hcv6)
        have y0 := res6.cell 0
        have y1 := res6.cell 1
        have y2 := res6.cell 2
        have y3 := res6.cell 3
        have f0 := res6.frozen 0
        have f1 := res6.frozen 1
        have f2 := res6.frozen 2
        have f3 := res6.frozen 3
        clear x0 x1 x2 x3 hx5 hcv5 res5 g5 hg6 hcv6 res6 g6
        go_wp2_with fail
        refine bodyPost_ret (v := .tuple #[.agg #[.slice B1' m1' e1', .slice B2' m2' e2', .slice B3' m3' e3', .slice B4' m4' e4'], .bool true]) (by simp [results, Tryz.results70, go_sem, y0, y1, y2, y3]) rfl ?_
        rw [Hr.out]
        exact hfin.out
    · have Hin : Hid ((decide (0 ≤ wk) && decide (wk ≤ (n1 : Int) - 1)) = false) := by
        show _ = _
        rw [Bool.and_eq_false_iff, decide_eq_false_iff_not, decide_eq_false_iff_not]
        omega
      have Hr : Hid (turnRun plan c wk = none) := by
        show _ = _
        refine turnRun_out ?_
        unfold isWorker
        rw [← Hn1.out, Bool.and_eq_false_iff, decide_eq_false_iff_not, decide_eq_false_iff_not]
        omega
      clear hv hin
      go_enter Tryz.func70, Tryz.ntmps70
      go_upto_region 1 with fail
      generalize ((w.alloc (.cells #[.slice A1 n1 c1, .slice A2 n2 c2, .slice A3 n3 c3, .slice A4 n4 c4] 27)).alloc (.cells #[.slice none 0 0, .slice none 0 0, .slice none 0 0, .slice none 0 0] 27)) = W at B0 ⊢
      have d0 := B0.b.d0
      have d1 := B0.b.d1
      have d2 := B0.b.d2
      have d3 := B0.b.d3
      go_wp2_with fail
      refine (specCrewValid_b _ _ plan c W (hp.new B0.g) B0.b.cv hpl Hfit.out Hv.out).mono ?_
      rintro e w1 ⟨rfl, hg1⟩
      have B1 := B0.new hg1
      clear B0 hg1 d0 d1 d2 d3
      have d0 := B1.b.d0
      have y0 := B1.res.cell 0
      have y1 := B1.res.cell 1
      have y2 := B1.res.cell 2
      have y3 := B1.res.cell 3
      have f0 := B1.res.frozen 0
      have f1 := B1.res.frozen 1
      have f2 := B1.res.frozen 2
      have f3 := B1.res.frozen 3
      have hfin := Lib.hid (turnFail B1.g)
      clear B1
      go_wp2_with fail
      refine (l6In_b _ _ _ _ Hin.out).mono ?_
      rintro e w2 ⟨rfl, rfl⟩
      go_wp2_with fail
      refine bodyPost_ret (v := .tuple #[.agg #[.slice none 0 0, .slice none 0 0, .slice none 0 0, .slice none 0 0], .bool false]) (by simp [results, Tryz.results70, go_sem, y0, y1, y2, y3]) rfl ?_
      rw [Hr.out]
      exact hfin.out
  · have hv' : crewValid plan c = false := by simpa using hv
    have Hv := Lib.hid hv'
    have Hr : Hid (turnRun plan c wk = none) := turnRun_bad hv'
    clear hv hv'
    go_enter Tryz.func70, Tryz.ntmps70
    go_upto_region 1 with fail
    generalize ((w.alloc (.cells #[.slice A1 n1 c1, .slice A2 n2 c2, .slice A3 n3 c3, .slice A4 n4 c4] 27)).alloc (.cells #[.slice none 0 0, .slice none 0 0, .slice none 0 0, .slice none 0 0] 27)) = W at B0 ⊢
    have d0 := B0.b.d0
    have d1 := B0.b.d1
    have d2 := B0.b.d2
    have d3 := B0.b.d3
    go_wp2_with fail
    refine (specCrewValid_b _ _ plan c W (hp.new B0.g) B0.b.cv hpl Hfit.out Hv.out).mono ?_
    rintro e w1 ⟨rfl, hg1⟩
    have B1 := B0.new hg1
    clear B0 hg1 d0 d1 d2 d3
    have y0 := B1.res.cell 0
    have y1 := B1.res.cell 1
    have y2 := B1.res.cell 2
    have y3 := B1.res.cell 3
    have f0 := B1.res.frozen 0
    have f1 := B1.res.frozen 1
    have f2 := B1.res.frozen 2
    have f3 := B1.res.frozen 3
    have hfin := Lib.hid (turnFail B1.g)
    clear B1
    go_wp2_with fail
    refine bodyPost_ret (v := .tuple #[.agg #[.slice none 0 0, .slice none 0 0, .slice none 0 0, .slice none 0 0], .bool false]) (by simp [results, Tryz.results70, go_sem, y0, y1, y2, y3]) rfl ?_
    rw [Hr.out]
    exact hfin.out
end Go.Proofs.YtihobnheficpjaaGreat
