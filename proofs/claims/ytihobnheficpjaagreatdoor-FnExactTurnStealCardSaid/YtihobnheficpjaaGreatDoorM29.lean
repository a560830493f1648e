/- Walks: impl.copyCrew. · Walks: dequeOf. · Walks: (*deque).push. -/
import Derived.Test.YtihobnheficpjaaGreatDoorM27
import Derived.Test.YtihobnheficpjaaGreatDoorM28
import Derived.Test.YtihobnheficpjaaGreatDoorM21
namespace Go.Proofs.YtihobnheficpjaaGreatDoor
open Go.RowKit

theorem OwnLO.val {w : World} {base : Nat} {v : Value} {ll : List (List Int)} (h : OwnLO w base v ll) : ∃ A n c, v = .slice A n c := let ⟨_, h1, _⟩ := h; h1.rl.val
theorem LX.ltz {w : World} {base : Nat} {v : Value} {ll : List (List Int)} {xs : List Value} (h : LX w base v ll xs) : ∀ u ∈ xs, ∀ g, u.ownBlock = some g → base ≤ g ∧ g < w.heap.size := by
  intro u hu g hg
  obtain ⟨i, hi, rfl⟩ := List.getElem_of_mem hu
  have hl := h.len
  obtain ⟨u', k1, k2⟩ := h.2 i _ (List.getElem?_eq_getElem (by omega))
  rw [List.getElem?_eq_getElem hi] at k1
  rw [Option.some.inj k1] at hg
  exact k2.lt g hg
theorem OwnC.grownC {w w' : World} {b : Nat} {v : Value} {c : Crew} {row : Option Nat} (h : OwnC w b v c) (hg : w.grownBy w' row) (hr : NotE w 3 row) (hr' : NotE w 25 row) : OwnC w' b v c := by
  obtain ⟨d, k, o, r, xs, ys, rfl, h1, h2, h3, h4, h5, h6⟩ := h
  exact ⟨d, k, o, r, xs, ys, rfl, h1.grown hg hr hr', h2.grown hg hr, h3.grown hg hr, h4.grown hg hr hr', h5, h6⟩
/-- Four parts made one behind the other are a crew of the call's own. -/
theorem ownC_made {w0 w1 w2 w3 w4 : World} {b : Nat} {d k o r : Value} {c : Crew} (h1 : OwnLO w1 w0.heap.size d c.deques) (g2 : w1.grownBy w2 none) (h2 : OwnI w2 w1.heap.size k c.counts) (g3 : w2.grownBy w3 none) (h3 : OwnI w3 w2.heap.size o c.done) (g4 : w3.grownBy w4 none) (h4 : OwnLO w4 w3.heap.size r c.rows) (hb : b ≤ w0.heap.size) (g1 : w0.grownBy w1 none) :
    OwnC w4 b (.agg #[d, k, o, r]) c := by
  obtain ⟨xs, x1, x2⟩ := h1
  obtain ⟨ys, y1, y2⟩ := h4
  have s1 := g1.size
  have s2 := g2.size
  have s3 := g3.size
  have s4 := g4.size
  have l1 := x1.ltz
  have l4 := y1.ltz
  refine ⟨d, k, o, r, xs, ys, rfl, (x1.new (gb_trans (gb_trans g2 g3) g4)).low hb, h2.ri.new (gb_trans g3 g4), (h3.new g4).lower (by omega), y1.low (by omega), ?_, fun g hd hr => ?_⟩
  · refine List.pairwise_cons.2 ⟨fun u hu g ho hg => ?_, Apart.join (s := w3.heap.size) x2 y2 (fun u hu g hg => by have := l1 u hu g hg; omega) (fun u hu g hg => (l4 u hu g hg).1)⟩
    have h5 := h3.lt g ho
    rcases List.mem_append.1 hu with hu | hu
    · have := l1 u hu g hg; omega
    · have := l4 u hu g hg; omega
  · have h5 := World.ownsRow.lt x1.1 g hd
    have h6 := World.ownsRow.lt y1.1 g hr
    omega
set_option maxHeartbeats 1600000 in
set_option maxRecDepth 20000 in
theorem implCopyCrew_any (v : Value) (c : Crew) (w : World) (h : CV w v c) (hd : c.deques.length ≤ 1000 ∧ ∀ l ∈ c.deques, l.length ≤ 1000) (hr : c.rows.length ≤ 1000 ∧ ∀ l ∈ c.rows, l.length ≤ 1000) (hk : c.counts.length ≤ 1000000000) (ho : c.done.length ≤ 1000000000) :
    Calls Tryz.prog 85 #[v] w (CrewOut w c) := by
  obtain ⟨A1, n1, c1, A2, n2, c2, A3, n3, c3, A4, n4, c4, rfl, -, -, -, -⟩ := h.form
  have B0 := Begun.start h
  go_enter Tryz.func85, Tryz.ntmps85
  go_upto_region 1 with fail
  generalize ((w.alloc (.cells #[.slice A1 n1 c1, .slice A2 n2 c2, .slice A3 n3 c3, .slice A4 n4 c4] 27)).alloc (.cells #[.slice none 0 0, .slice none 0 0, .slice none 0 0, .slice none 0 0] 27)) = W at B0 ⊢
  have BD := B0.new (gb_drew (gb_refl W none))
  have z0 := B0.b.d0
  have z1 := B0.b.d1
  have z2 := B0.b.d2
  have z3 := B0.b.d3
  have hne : w.heap.size + 1 ≠ w.heap.size := by omega
  go_region_held3 (fun w' => w'.cell? ⟨w.heap.size, 0, none⟩ = some (.slice A1 n1 c1) ∧ w'.cell? ⟨w.heap.size, 1, none⟩ = some (.slice A2 n2 c2) ∧ w'.cell? ⟨w.heap.size, 2, none⟩ = some (.slice A3 n3 c3) ∧ w'.cell? ⟨w.heap.size, 3, none⟩ = some (.slice A4 n4 c4)) (go_keep) (first
    | (go_at_call 116; have hz := o3; refine (copyLists_any _ c.rows _ (by exact B3.b.ro) hr.1 hr.2).mono ?_; rintro e w4 ⟨v4, rfl, o4, g4⟩; have B4 := B3.new g4; obtain ⟨E4, e4, b4, rfl⟩ := o4.val; have p0 := B4.b.d0; have p1 := B4.b.d1; have p2 := B4.b.d2; have p3 := B4.b.d3; have y0 := B4.res.cell 0; have f0 := B4.res.frozen 0; have y1 := B4.res.cell 1; have f1 := B4.res.frozen 1; have y2 := B4.res.cell 2; have f2 := B4.res.frozen 2; have y3 := B4.res.cell 3; have f3 := B4.res.frozen 3)
    | (go_at_call 86; have hz := o2; refine (copyInts_any _ c.done _ (by exact B2.b.dn) ho).mono ?_; rintro e w3 ⟨v3, rfl, o3, g3⟩; have B3 := B2.new g3; obtain ⟨E3, e3, b3, rfl⟩ := o3.ri.val; have p0 := B3.b.d0; have p1 := B3.b.d1; have p2 := B3.b.d2; have p3 := B3.b.d3; have y0 := B3.res.cell 0; have f0 := B3.res.frozen 0; have y1 := B3.res.cell 1; have f1 := B3.res.frozen 1; have y2 := B3.res.cell 2; have f2 := B3.res.frozen 2; have y3 := B3.res.cell 3; have f3 := B3.res.frozen 3)
    | (go_at_call 86; refine (copyInts_any _ c.counts _ (by exact B1.b.ct) hk).mono ?_; rintro e w2 ⟨v2, rfl, o2, g2⟩; have B2 := B1.new g2; obtain ⟨E2, e2, b2, rfl⟩ := o2.ri.val; have p0 := B2.b.d0; have p1 := B2.b.d1; have p2 := B2.b.d2; have p3 := B2.b.d3; have y0 := B2.res.cell 0; have f0 := B2.res.frozen 0; have y1 := B2.res.cell 1; have f1 := B2.res.frozen 1; have y2 := B2.res.cell 2; have f2 := B2.res.frozen 2; have y3 := B2.res.cell 3; have f3 := B2.res.frozen 3)
    | (go_at_call 116; refine (copyLists_any _ c.deques _ (by first | exact BD.b.dq | exact B0.b.dq) hd.1 hd.2).mono ?_; rintro e w1 ⟨v1, rfl, o1, g1⟩; have B1 := (by first | exact BD.new g1 | exact B0.new g1 : Begun w w1 (.slice A1 n1 c1) (.slice A2 n2 c2) (.slice A3 n3 c3) (.slice A4 n4 c4) c); obtain ⟨E1, e1, b1, rfl⟩ := o1.val; have p0 := B1.b.d0; have p1 := B1.b.d1; have p2 := B1.b.d2; have p3 := B1.b.d3; have y0 := B1.res.cell 0; have f0 := B1.res.frozen 0; have y1 := B1.res.cell 1; have f1 := B1.res.frozen 1; have y2 := B1.res.cell 2; have f2 := B1.res.frozen 2; have y3 := B1.res.cell 3; have f3 := B1.res.frozen 3))
  have gW : W.grownBy w1 none := by first | exact g1 | exact gb_trans (gb_drew (gb_refl W none)) g1
  have hs0 : w.heap.size ≤ W.heap.size := B0.g.size
  have hO := ownC_made (b := w.heap.size) o1 g2 o2 g3 o3 g4 o4 hs0 g1
  have hst := gb_set4 w4 (w.heap.size + 1) (.slice E1 e1 b1) (.slice E2 e2 b2) (.slice E3 e3 b3) (.slice E4 e4 b4)
  have hI : NotE w4 3 (some (w.heap.size + 1)) := NotE.blk B4.res (by decide)
  have hL : NotE w4 25 (some (w.heap.size + 1)) := NotE.blk B4.res (by decide)
  have hO2 := hO.grownC hst hI hL
  have gF := gb_new B4.g hst (fun g e => by cases e; exact .inl (Nat.le_succ _))
  have hfin : Hid (CrewOut w c _ _) := ⟨_, rfl, hO2, gF⟩
  clear hO hst hI hL hO2 gF gW o1 o2 o3 o4 g1 g2 g3 g4 B0 BD B1 B2 B3 B4
  go_wp2_with fail
  refine bodyPost_ret (v := .agg #[.slice E1 e1 b1, .slice E2 e2 b2, .slice E3 e3 b3, .slice E4 e4 b4]) (by simp [results, Tryz.results85, go_sem, y0, y1, y2, y3]) rfl ?_
  exact hfin.out
end Go.Proofs.YtihobnheficpjaaGreatDoor
namespace Go.Proofs.YtihobnheficpjaaGreatDoor
open Go.RowKit

theorem dequeOf_any (v : Value) (l : List Int) (w : World) (h : RI w v l) (hl : l.length ≤ 1000000000) : Calls Tryz.prog 123 #[v] w fun e w' => ∃ u, e = .returned (.agg #[u]) ∧ OwnI w' w.heap.size u l ∧ w.grownBy w' none := by
  obtain ⟨A, n, c, rfl⟩ := h.val
  have hB := Blk.new w 149 #[.slice none 0 0]
  have hg := World.grownBy_alloc w (.cells #[.slice none 0 0] 149) none
  have h1 := h.new hg
  go_enter Tryz.func123, Tryz.ntmps123
  go_upto_region 1 with fail
  generalize w.alloc (.cells #[.slice none 0 0] 149) = W at hB hg h1 ⊢
  go_wp2_with (at_builtin; go_must (refine wp_copy_ints _ (.tmp 3) 25 Tryz.underlying25 rfl rfl h1 hl (Nat.le_refl _) rfl rfl ?_))
  intro v' w1 ho hg1
  obtain ⟨A', n', c', rfl⟩ := ho.ri.val
  have B1 := hB.grown hg1 (by simp)
  have y0 := B1.cell 0
  have f0 := B1.frozen 0
  have hst : w1.grownBy (w1.setCell ⟨w.heap.size, 0, none⟩ (.slice A' n' c')) (some w.heap.size) := gb_set (gb_refl _ _) (.inr rfl) _
  have ho2 := (ho.grown hst (NotE.blk B1 (by decide))).lower hg.size
  have g2 := gb_new (gb_trans hg hg1) hst (fun g e => by cases e; exact .inl (Nat.le_refl _))
  clear ho hg1 B1 hB hst
  go_wp2_with fail
  refine bodyPost_ret (v := .agg #[.slice A' n' c']) (by simp [results, Tryz.results123, go_sem, y0]) rfl ?_
  exact ⟨_, rfl, ho2, g2⟩
theorem pop_any (tb g o n c : Nat) (x : Int) (l : List Int) (w : World) (hB : Blk w tb 149 #[.slice (some ⟨g, o, none⟩) (n + 1) c]) (hr : RI w (.slice (some ⟨g, o, none⟩) (n + 1) c) l) (hn : n ≤ 10) (hx : l[n]? = some x) :
    Calls Tryz.prog 124 #[.pointer (some ⟨tb, 0, none⟩)] w fun e w' => e = .returned (.int .i64 x) ∧ w' = w.setCell ⟨tb, 0, none⟩ (.slice (some ⟨g, o, none⟩) n c) := by
  obtain ⟨g', o', x', e, hx', c0⟩ := hr.at_ (k := n) (by omega)
  injection e with e
  injection e with e1 e2
  subst e1 e2
  rw [hx] at hx'
  injection hx' with hx'
  subst hx'
  obtain ⟨A, n', c', e, hnc, -⟩ := hr.form'
  injection e with e1 e2 e3
  subst e2 e3
  clear e1 hx hr
  have d0 := hB.cell 0
  have f0 := hB.frozen 0
  have hw : IntKind.i64.wrap (((n + 1 : Nat) : Int) - 1) = (n : Int) := by rw [IntWalk.i64_in _ (by omega)]; omega
  have hb1 : (n : Int) < ((n + 1 : Nat) : Int) := by omega
  have hb2 : (n : Int) ≤ (c : Int) := by omega
  go_enter Tryz.func124, Tryz.ntmps124
  go_wp2_with fail
  go_ret
  exact ⟨rfl, rfl⟩
theorem steal_any (tb g o n c : Nat) (x : Int) (l : List Int) (w : World) (hB : Blk w tb 149 #[.slice (some ⟨g, o, none⟩) (n + 1) c]) (hr : RI w (.slice (some ⟨g, o, none⟩) (n + 1) c) l) (hn : n ≤ 10) (hx : l[0]? = some x) :
    Calls Tryz.prog 137 #[.pointer (some ⟨tb, 0, none⟩)] w fun e w' => e = .returned (.int .i64 x) ∧ w' = w.setCell ⟨tb, 0, none⟩ (.slice (if c = 1 then some ⟨g, o, none⟩ else some ⟨g, o + 1, none⟩) n (c - 1)) := by
  obtain ⟨g', o', x', e, hx', c0⟩ := hr.at_ (k := 0) (by omega)
  injection e with e
  injection e with e1 e2
  subst e1 e2
  rw [hx] at hx'
  injection hx' with hx'
  subst hx'
  obtain ⟨A, n', c', e, hnc, -⟩ := hr.form'
  injection e with e1 e2 e3
  subst e2 e3
  clear e1 hx hr
  have c1 : w.cell? ⟨g, o, none⟩ = some (.int .i64 x) := c0
  clear c0
  have d0 := hB.cell 0
  have f0 := hB.frozen 0
  have hb1 : (0 : Int) < ((n + 1 : Nat) : Int) := by omega
  have hb2 : (1 : Int) ≤ ((n + 1 : Nat) : Int) := by omega
  have hb3 : ((n + 1 : Nat) : Int) ≤ (c : Int) := by omega
  by_cases h1 : c = 1
  · subst h1
    obtain rfl : n = 0 := by omega
    go_enter Tryz.func137, Tryz.ntmps137
    go_wp2_with fail
    go_ret
    exact ⟨rfl, rfl⟩
  · rw [if_neg h1]
    go_enter Tryz.func137, Tryz.ntmps137
    go_wp2_with fail
    go_ret
    exact ⟨rfl, rfl⟩
end Go.Proofs.YtihobnheficpjaaGreatDoor
namespace Go.Proofs.YtihobnheficpjaaGreatDoor
open Go.RowKit

theorem push_any (tb base : Nat) (x : Int) (u : Value) (l : List Int) (w0 w : World) (hB : Blk w tb 149 #[u]) (ho : OwnI w base u l) (hl : l.length ≤ 1000000) (hg : w0.grownBy w none) (hb : w0.heap.size ≤ base) (hbw : base ≤ w.heap.size) (ht : w0.heap.size ≤ tb) :
    Calls Tryz.prog 125 #[.pointer (some ⟨tb, 0, none⟩), .int .i64 x] w fun e w' => e = .returned (.tuple #[]) ∧ ∃ u', Blk w' tb 149 #[u'] ∧ OwnI w' base u' (l ++ [x]) ∧ w0.grownBy w' none := by
  obtain ⟨A, n, c, rfl⟩ := ho.ri.val
  have d0 := hB.cell 0
  have f0 := hB.frozen 0
  go_enter Tryz.func125, Tryz.ntmps125
  go_wp2_with (at_builtin; go_must (refine wp_push_int_n (.tmp 8) (.tmp 10) rfl rfl ho (by omega) hbw rfl rfl rfl ?_))
  intro v2 w2 ho2 hg2
  have B2 : Blk w2 tb 149 #[.slice A n c] := hB.past hg2 (ho.notE (by decide))
  have g2 := gb_new hg hg2 (fun g e => .inl (Nat.le_trans hb (ho.lt g e).1))
  obtain ⟨A2, n2, c2, rfl⟩ := ho2.ri.val
  have e0 := B2.cell 0
  have e1 := B2.frozen 0
  have hst : w2.grownBy (w2.setCell ⟨tb, 0, none⟩ (.slice A2 n2 c2)) (some tb) := gb_set (gb_refl _ _) (.inr rfl) _
  have B3 : Blk (w2.setCell ⟨tb, 0, none⟩ (.slice A2 n2 c2)) tb 149 #[.slice A2 n2 c2] := B2.set_ 0 _
  have ho3 := ho2.grown hst (NotE.blk B2 (by decide))
  have g3 := gb_new g2 hst (fun g e => by cases e; exact .inl ht)
  clear hB ho hg hg2 B2 g2 ho2 hst d0 f0
  go_wp2_with fail
  first | exact bodyPost_normal (results_none rfl _ _ _) rfl ⟨rfl, _, B3, ho3, g3⟩ | exact bodyPost_end (results_none rfl _ _ _) rfl ⟨rfl, _, B3, ho3, g3⟩ | (go_ret; exact ⟨rfl, _, B3, ho3, g3⟩)
end Go.Proofs.YtihobnheficpjaaGreatDoor
