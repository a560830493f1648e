/- Walks: the laws' szCrew, toCrew, eqCrew, markCrew, heldCrew. -/
import Derived.Test.YtihobnheficpjaaGreatDoorM1Marks
import Derived.Test.YtihobnheficpjaaGreatDoorM35
namespace Go.Proofs.YtihobnheficpjaaGreatDoor
open Go.RowKit

theorem Blk.mi0 {lo hi : Nat} {w w' : World} {g : Nat} {cs : Array Value} (h : Blk w g 27 cs) (k : MI lo hi w w') : Blk w' g 27 cs := k.other g _ cs (by decide) h
/-- A crew as an argument. -/
def ArgC (B0 : Nat) (w : World) (v : Value) (c : Crew) : Prop := ∃ d k o r, v = .agg #[d, k, o, r] ∧ ArgL B0 w d c.deques ∧ ArgI B0 w k c.counts ∧ ArgI B0 w o c.done ∧ ArgL B0 w r c.rows
theorem ArgC.new {B0 : Nat} {w w' : World} {v : Value} {c : Crew} (h : ArgC B0 w v c) (hg : w.grownBy w' none) (hB : B0 ≤ w.heap.size) : ArgC B0 w' v c := by
  obtain ⟨d, k, o, r, e, h1, h2, h3, h4⟩ := h
  exact ⟨d, k, o, r, e, h1.new hg hB, h2.new hg hB, h3.new hg hB, h4.new hg hB⟩
def fitsC (c : Crew) : Prop := fitsL c.deques ∧ c.counts.length ≤ 1048576 ∧ c.done.length ≤ 1048576 ∧ fitsL c.rows
set_option maxHeartbeats 800000 in
set_option maxRecDepth 20000 in
theorem szCrew_any (B0 : Nat) (v : Value) (c : Crew) (left : Int) (w : World) (h : ArgC B0 w v c) (hB : B0 ≤ w.heap.size) (h0 : 0 ≤ left) (h1 : left ≤ 1048576) :
    Calls Tryz.prog 28 #[v, .int .i64 left] w fun e w' => SzPost left (fitsC c) e ∧ w.grownBy w' none := by
  obtain ⟨d, k, o, r, rfl, hd, hk, ho, hr⟩ := h
  obtain ⟨A1, n1, c1, rfl, -, -, -⟩ := hd.form
  obtain ⟨A2, n2, c2, rfl, -, -, -⟩ := hk.form
  obtain ⟨A3, n3, c3, rfl, -, -, -⟩ := ho.form
  obtain ⟨A4, n4, c4, rfl, -, -, -⟩ := hr.form
  have hX := Blk.new w 44 #[.slice A1 n1 c1, .slice A2 n2 c2, .slice A3 n3 c3, .slice A4 n4 c4]
  have hg := World.grownBy_alloc w (.cells #[.slice A1 n1 c1, .slice A2 n2 c2, .slice A3 n3 c3, .slice A4 n4 c4] 44) none
  replace hd := hd.new hg hB
  replace hk := hk.new hg hB
  replace ho := ho.new hg hB
  replace hr := hr.new hg hB
  go_enter Tryz.func28, Tryz.ntmps28
  go_upto_region 1 with fail
  generalize w.alloc (.cells #[.slice A1 n1 c1, .slice A2 n2 c2, .slice A3 n3 c3, .slice A4 n4 c4] 44) = W at hX hg hd hk ho hr ⊢
  have x0 := hX.cell 0
  have x1 := hX.cell 1
  have x2 := hX.cell 2
  have x3 := hX.cell 3
  go_wp2_with fail
  refine (szIntSS_any B0 _ c.deques left W hd h0 (by omega)).mono ?_
  rintro e w0 ⟨⟨z0, rfl, a0, b0, f0⟩, rfl⟩
  rcases Int.lt_or_le z0 0 with q0 | p0
  · clear f0
    go_wp2_with fail
    go_ret
    exact ⟨⟨-1, rfl, by omega, by omega, fun h => by omega⟩, hg⟩
  replace f0 := Lib.hid (f0 p0)
  have q0 : ¬ (z0 < 0) := by omega
  go_wp2_with fail
  refine (szIntS_any B0 _ c.counts z0 W hk p0 (by omega)).mono ?_
  rintro e w1 ⟨⟨z1, rfl, a1, b1, f1⟩, rfl⟩
  rcases Int.lt_or_le z1 0 with q1 | p1
  · clear f1
    go_wp2_with fail
    go_ret
    exact ⟨⟨-1, rfl, by omega, by omega, fun h => by omega⟩, hg⟩
  replace f1 := Lib.hid (f1 p1)
  have q1 : ¬ (z1 < 0) := by omega
  go_wp2_with fail
  refine (szIntS_any B0 _ c.done z1 W ho p1 (by omega)).mono ?_
  rintro e w2 ⟨⟨z2, rfl, a2, b2, f2⟩, rfl⟩
  rcases Int.lt_or_le z2 0 with q2 | p2
  · clear f2
    go_wp2_with fail
    go_ret
    exact ⟨⟨-1, rfl, by omega, by omega, fun h => by omega⟩, hg⟩
  replace f2 := Lib.hid (f2 p2)
  have q2 : ¬ (z2 < 0) := by omega
  go_wp2_with fail
  refine (szIntSS_any B0 _ c.rows z2 W hr p2 (by omega)).mono ?_
  rintro e w3 ⟨⟨z3, rfl, a3, b3, f3⟩, rfl⟩
  rcases Int.lt_or_le z3 0 with q3 | p3
  · clear f3
    go_wp2_with fail
    go_ret
    exact ⟨⟨-1, rfl, by omega, by omega, fun h => by omega⟩, hg⟩
  replace f3 := Lib.hid (f3 p3)
  have q3 : ¬ (z3 < 0) := by omega
  go_wp2_with fail
  go_ret
  exact ⟨⟨z3, rfl, by omega, by omega, fun _ => ⟨f0.out, by have := f1.out; omega, by have := f2.out; omega, f3.out⟩⟩, hg⟩
structure TC (w wx : World) (a o : Array Value) : Prop where
  s : Blk wx w.heap.size 44 a
  res : Blk wx (w.heap.size + 1) 27 #[.slice none 0 0, .slice none 0 0, .slice none 0 0, .slice none 0 0]
  o : Blk wx (w.heap.size + 1 + 1) 27 o
  g : w.grownBy wx none
theorem TC.new (w : World) (a : Array Value) : TC w (((w.alloc (.cells a 44)).alloc (.cells #[.slice none 0 0, .slice none 0 0, .slice none 0 0, .slice none 0 0] 27)).alloc (.cells #[.slice none 0 0, .slice none 0 0, .slice none 0 0, .slice none 0 0] 27)) a #[.slice none 0 0, .slice none 0 0, .slice none 0 0, .slice none 0 0] := by
  refine ⟨((Blk.new w _ _).alloc _).alloc _, ?_, ?_, gb_alloc (gb_alloc (gb_alloc (gb_refl w none) _) _) _⟩
  · have := (Blk.new (w.alloc (.cells a 44)) 27 #[.slice none 0 0, .slice none 0 0, .slice none 0 0, .slice none 0 0]).alloc (.cells #[.slice none 0 0, .slice none 0 0, .slice none 0 0, .slice none 0 0] 27)
    rw [World.size_alloc] at this
    exact this
  · have := Blk.new ((w.alloc (.cells a 44)).alloc (.cells #[.slice none 0 0, .slice none 0 0, .slice none 0 0, .slice none 0 0] 27)) 27 #[.slice none 0 0, .slice none 0 0, .slice none 0 0, .slice none 0 0]
    rw [World.size_alloc, World.size_alloc] at this
    exact this
theorem TC.call {w wx wy : World} {a o : Array Value} (M : TC w wx a o) (hg : wx.grownBy wy none) : TC w wy a o :=
  ⟨M.s.grown hg (by simp), M.res.grown hg (by simp), M.o.grown hg (by simp), gb_trans M.g hg⟩
theorem TC.store {w wx : World} {a o o2 : Array Value} (M : TC w wx a o) (j : Nat) (u : Value) (hc : o.setIfInBounds j u = o2) : TC w (wx.setCell ⟨w.heap.size + 1 + 1, j, none⟩ u) a o2 :=
  ⟨M.s.far (by show w.heap.size ≠ w.heap.size + 1 + 1; omega) u, M.res.far (by show w.heap.size + 1 ≠ w.heap.size + 1 + 1; omega) u, hc ▸ M.o.set_ j u, gb_set (p := ⟨w.heap.size + 1 + 1, j, none⟩) M.g (.inl (by show w.heap.size ≤ w.heap.size + 1 + 1; omega)) u⟩
theorem OwnLO.keep {w w' : World} {b g : Nat} {E : TypeId} {cs : Array Value} {v : Value} {ll : List (List Int)} (h : OwnLO w b v ll) (hg : w.grownBy w' (some g)) (hb : Blk w g E cs) (hE : 3 ≠ E) (hE2 : 25 ≠ E) : OwnLO w' b v ll := h.grown hg (NotE.blk hb hE) (NotE.blk hb hE2)
def CrewCopy (w : World) (c : Crew) (e : Ending) (w' : World) : Prop := ∃ d k o r, e = .returned (.agg #[d, k, o, r]) ∧ OwnLO w' w.heap.size d c.deques ∧ OwnI w' w.heap.size k c.counts ∧ OwnI w' w.heap.size o c.done ∧ OwnLO w' w.heap.size r c.rows ∧ w.grownBy w' none
set_option maxHeartbeats 1600000 in
set_option maxRecDepth 20000 in
theorem toCrew_any (B0 : Nat) (v : Value) (c : Crew) (w : World) (h : ArgC B0 w v c) (hB : B0 ≤ w.heap.size) (hf : fitsC c) :
    Calls Tryz.prog 30 #[v] w (CrewCopy w c) := by
  obtain ⟨d, k, o, r, rfl, hd, hk, ho, hr⟩ := h
  obtain ⟨hf1, hf2, hf3, hf4⟩ := hf
  obtain ⟨A1, n1, c1, rfl, -, -, -⟩ := hd.form
  obtain ⟨A2, n2, c2, rfl, -, -, -⟩ := hk.form
  obtain ⟨A3, n3, c3, rfl, -, -, -⟩ := ho.form
  obtain ⟨A4, n4, c4, rfl, -, -, -⟩ := hr.form
  have M := TC.new w #[.slice A1 n1 c1, .slice A2 n2 c2, .slice A3 n3 c3, .slice A4 n4 c4]
  have hne1 : w.heap.size ≠ w.heap.size + 1 + 1 := by omega
  have hne2 : w.heap.size + 1 ≠ w.heap.size + 1 + 1 := by omega
  go_enter Tryz.func30, Tryz.ntmps30
  go_upto_region 2 with fail
  generalize (((w.alloc (.cells #[.slice A1 n1 c1, .slice A2 n2 c2, .slice A3 n3 c3, .slice A4 n4 c4] 44)).alloc (.cells #[.slice none 0 0, .slice none 0 0, .slice none 0 0, .slice none 0 0] 27)).alloc (.cells #[.slice none 0 0, .slice none 0 0, .slice none 0 0, .slice none 0 0] 27)) = W at M ⊢
  have s0 := M.s.cell 0
  go_wp2_with fail
  refine (toIntSS_any B0 _ c.deques W (hd.new M.g hB) (Nat.le_trans hB M.g.size) hf1).mono ?_
  rintro e w0 ⟨v0, rfl, p0, g0⟩
  have hs0 := M.g.size
  replace M := M.call g0
  replace p0 := p0.low hs0
  obtain ⟨B0_, m0, e0, rfl⟩ := p0.val
  have y0 := M.o.cell 0
  have z0 := M.o.frozen 0
  have hst0 : w0.grownBy (w0.setCell ⟨w.heap.size + 1 + 1, 0, none⟩ (.slice B0_ m0 e0)) (some (w.heap.size + 1 + 1)) := gb_set (p := ⟨w.heap.size + 1 + 1, 0, none⟩) (gb_refl _ _) (.inr rfl) _
  replace p0 := p0.keep hst0 M.o (by decide) (by decide)
  replace M := M.store (o2 := #[.slice B0_ m0 e0, .slice none 0 0, .slice none 0 0, .slice none 0 0]) 0 (.slice B0_ m0 e0) rfl
  clear hst0 g0 s0
  go_upto_region 3 with fail
  clear y0 z0
  generalize w0.setCell ⟨w.heap.size + 1 + 1, 0, none⟩ (.slice B0_ m0 e0) = W0 at M p0 ⊢
  have s1 := M.s.cell 1
  go_wp2_with fail
  refine (toIntS_any B0 _ c.counts W0 (hk.new M.g hB) (Nat.le_trans hB M.g.size) hf2).mono ?_
  rintro e w1 ⟨v1, rfl, p1, g1⟩
  have hs1 := M.g.size
  replace M := M.call g1
  replace p1 := p1.lower hs1
  replace p0 := p0.new g1
  obtain ⟨B1, m1, e1, rfl⟩ := p1.ri.val
  have y1 := M.o.cell 1
  have z1 := M.o.frozen 1
  have hst1 : w1.grownBy (w1.setCell ⟨w.heap.size + 1 + 1, 1, none⟩ (.slice B1 m1 e1)) (some (w.heap.size + 1 + 1)) := gb_set (p := ⟨w.heap.size + 1 + 1, 1, none⟩) (gb_refl _ _) (.inr rfl) _
  replace p0 := p0.keep hst1 M.o (by decide) (by decide)
  replace p1 := p1.keep hst1 M.o (by decide)
  replace M := M.store (o2 := #[.slice B0_ m0 e0, .slice B1 m1 e1, .slice none 0 0, .slice none 0 0]) 1 (.slice B1 m1 e1) rfl
  clear hst1 g1 s1
  go_upto_region 4 with fail
  clear y1 z1
  generalize w1.setCell ⟨w.heap.size + 1 + 1, 1, none⟩ (.slice B1 m1 e1) = W1 at M p0 p1 ⊢
  have s2 := M.s.cell 2
  go_wp2_with fail
  refine (toIntS_any B0 _ c.done W1 (ho.new M.g hB) (Nat.le_trans hB M.g.size) hf3).mono ?_
  rintro e w2 ⟨v2, rfl, p2, g2⟩
  have hs2 := M.g.size
  replace M := M.call g2
  replace p2 := p2.lower hs2
  replace p0 := p0.new g2
  replace p1 := p1.new g2
  obtain ⟨B2, m2, e2, rfl⟩ := p2.ri.val
  have y2 := M.o.cell 2
  have z2 := M.o.frozen 2
  have hst2 : w2.grownBy (w2.setCell ⟨w.heap.size + 1 + 1, 2, none⟩ (.slice B2 m2 e2)) (some (w.heap.size + 1 + 1)) := gb_set (p := ⟨w.heap.size + 1 + 1, 2, none⟩) (gb_refl _ _) (.inr rfl) _
  replace p0 := p0.keep hst2 M.o (by decide) (by decide)
  replace p1 := p1.keep hst2 M.o (by decide)
  replace p2 := p2.keep hst2 M.o (by decide)
  replace M := M.store (o2 := #[.slice B0_ m0 e0, .slice B1 m1 e1, .slice B2 m2 e2, .slice none 0 0]) 2 (.slice B2 m2 e2) rfl
  clear hst2 g2 s2
  go_upto_region 5 with fail
  clear y2 z2
  generalize w2.setCell ⟨w.heap.size + 1 + 1, 2, none⟩ (.slice B2 m2 e2) = W2 at M p0 p1 p2 ⊢
  have s3 := M.s.cell 3
  go_wp2_with fail
  refine (toIntSS_any B0 _ c.rows W2 (hr.new M.g hB) (Nat.le_trans hB M.g.size) hf4).mono ?_
  rintro e w3 ⟨v3, rfl, p3, g3⟩
  have hs3 := M.g.size
  replace M := M.call g3
  replace p3 := p3.low hs3
  replace p0 := p0.new g3
  replace p1 := p1.new g3
  replace p2 := p2.new g3
  obtain ⟨B3, m3, e3, rfl⟩ := p3.val
  have y3 := M.o.cell 3
  have z3 := M.o.frozen 3
  have hst3 : w3.grownBy (w3.setCell ⟨w.heap.size + 1 + 1, 3, none⟩ (.slice B3 m3 e3)) (some (w.heap.size + 1 + 1)) := gb_set (p := ⟨w.heap.size + 1 + 1, 3, none⟩) (gb_refl _ _) (.inr rfl) _
  replace p0 := p0.keep hst3 M.o (by decide) (by decide)
  replace p1 := p1.keep hst3 M.o (by decide)
  replace p2 := p2.keep hst3 M.o (by decide)
  replace p3 := p3.keep hst3 M.o (by decide) (by decide)
  replace M := M.store (o2 := #[.slice B0_ m0 e0, .slice B1 m1 e1, .slice B2 m2 e2, .slice B3 m3 e3]) 3 (.slice B3 m3 e3) rfl
  clear hst3 g3 s3
  go_upto_region 6 with fail
  clear y3 z3
  generalize w3.setCell ⟨w.heap.size + 1 + 1, 3, none⟩ (.slice B3 m3 e3) = W3 at M p0 p1 p2 p3 ⊢
  have o0 := M.o.cell 0
  have o1 := M.o.cell 1
  have o2 := M.o.cell 2
  have o3 := M.o.cell 3
  have r0 := M.res.cell 0
  have r1 := M.res.cell 1
  have r2 := M.res.cell 2
  have r3 := M.res.cell 3
  have f0 := M.res.frozen 0
  have f1 := M.res.frozen 1
  have f2 := M.res.frozen 2
  have f3 := M.res.frozen 3
  have hst := gb_set4 W3 (w.heap.size + 1) (.slice B0_ m0 e0) (.slice B1 m1 e1) (.slice B2 m2 e2) (.slice B3 m3 e3)
  have hfin : Hid (CrewCopy w c (.returned (.agg #[.slice B0_ m0 e0, .slice B1 m1 e1, .slice B2 m2 e2, .slice B3 m3 e3])) _) := ⟨_, _, _, _, rfl, p0.keep hst M.res (by decide) (by decide), p1.keep hst M.res (by decide), p2.keep hst M.res (by decide), p3.keep hst M.res (by decide) (by decide), gb_new M.g hst (fun g e => by cases e; exact .inl (Nat.le_succ _))⟩
  clear hst p0 p1 p2 p3 M
  go_wp2_with fail
  refine bodyPost_ret (v := .agg #[.slice B0_ m0 e0, .slice B1 m1 e1, .slice B2 m2 e2, .slice B3 m3 e3]) (by simp [results, Tryz.results30, go_sem, r0, r1, r2, r3]) rfl ?_
  exact hfin.out
set_option maxRecDepth 20000 in
theorem eqCrew_any (va vb : Value) (c : Crew) (w : World) (ha : CV w va c) (hb : CV w vb c) : Calls Tryz.prog 31 #[va, vb] w fun e w' => e = .returned (.bool true) ∧ w.grownBy w' none := by
  obtain ⟨A1, n1, c1, A2, n2, c2, A3, n3, c3, A4, n4, c4, rfl, -, -, -, -⟩ := ha.form
  obtain ⟨B1, m1, e1, B2, m2, e2, B3, m3, e3, B4, m4, e4, rfl, -, -, -, -⟩ := hb.form
  have hX := ha.box.new (World.grownBy_alloc _ (.cells #[.slice B1 m1 e1, .slice B2 m2 e2, .slice B3 m3 e3, .slice B4 m4 e4] 27) none)
  have hY := (hb.new (World.grownBy_alloc w (.cells #[.slice A1 n1 c1, .slice A2 n2 c2, .slice A3 n3 c3, .slice A4 n4 c4] 27) none)).box
  rw [World.size_alloc] at hY
  have g1 : w.grownBy ((w.alloc (.cells #[.slice A1 n1 c1, .slice A2 n2 c2, .slice A3 n3 c3, .slice A4 n4 c4] 27)).alloc (.cells #[.slice B1 m1 e1, .slice B2 m2 e2, .slice B3 m3 e3, .slice B4 m4 e4] 27)) none := gb_alloc (gb_alloc (gb_refl w none) _) _
  clear ha hb
  go_enter Tryz.func31, Tryz.ntmps31
  go_upto_region 1 with fail
  generalize ((w.alloc (.cells #[.slice A1 n1 c1, .slice A2 n2 c2, .slice A3 n3 c3, .slice A4 n4 c4] 27)).alloc (.cells #[.slice B1 m1 e1, .slice B2 m2 e2, .slice B3 m3 e3, .slice B4 m4 e4] 27)) = W at hX hY g1 ⊢
  have x0 := hX.d0
  have y0 := hY.d0
  go_wp2_with fail
  refine (eqIntSS_any _ _ c.deques W hX.dq hY.dq).mono ?_
  rintro e w1 ⟨rfl, hg1⟩
  replace hX := hX.new hg1
  replace hY := hY.new hg1
  replace g1 := gb_trans g1 hg1
  clear x0 y0 hg1
  have x1 := hX.d1
  have y1 := hY.d1
  go_wp2_with fail
  refine (eqIntS_any _ _ c.counts w1 hX.ct hY.ct).mono ?_
  rintro e w2 ⟨rfl, hg1⟩
  replace hX := hX.new hg1
  replace hY := hY.new hg1
  replace g1 := gb_trans g1 hg1
  clear x1 y1 hg1
  have x2 := hX.d2
  have y2 := hY.d2
  go_wp2_with fail
  refine (eqIntS_any _ _ c.done w2 hX.dn hY.dn).mono ?_
  rintro e w3 ⟨rfl, hg1⟩
  replace hX := hX.new hg1
  replace hY := hY.new hg1
  replace g1 := gb_trans g1 hg1
  clear x2 y2 hg1
  have x3 := hX.d3
  have y3 := hY.d3
  go_wp2_with fail
  refine (eqIntSS_any _ _ c.rows w3 hX.ro hY.ro).mono ?_
  rintro e w4 ⟨rfl, hg1⟩
  go_wp2_with fail
  go_ret
  exact ⟨rfl, gb_trans g1 hg1⟩
def MarkCZ (lo hi k : Nat) (w : World) (e : Ending) (w' : World) : Prop := (∃ y : Nat, e = .returned (.int .i64 y) ∧ y ≤ k + 3000000000000) ∧ MI lo hi w w'
set_option maxHeartbeats 800000 in
set_option maxRecDepth 20000 in
theorem markCrew_z (lo hi : Nat) (d q o r : Value) (n1 n2 n3 n4 k : Nat) (w : World) (hd : WL w lo hi d n1) (hk : WI w lo hi q n2) (ho : WI w lo hi o n3) (hr : WL w lo hi r n4) (hkb : k ≤ 1000000000000000000) (kz : Int) (hkz : kz = (k : Nat) := by omega) :
    Calls Tryz.prog 34 #[.agg #[d, q, o, r], .int .i64 kz] w (MarkCZ lo hi k w) := by
  subst hkz
  obtain ⟨A1, c1, rfl, -, hn1⟩ := hd.form
  obtain ⟨A2, c2, rfl, -, hn2⟩ := hk.form
  obtain ⟨A3, c3, rfl, -, hn3⟩ := ho.form
  obtain ⟨A4, c4, rfl, -, hn4⟩ := hr.form
  have hX := Blk.new w 27 #[.slice A1 n1 c1, .slice A2 n2 c2, .slice A3 n3 c3, .slice A4 n4 c4]
  have hg : MI lo hi w _ := MI.of_new (World.grownBy_alloc w (.cells #[.slice A1 n1 c1, .slice A2 n2 c2, .slice A3 n3 c3, .slice A4 n4 c4] 27) none)
  replace hd := hd.mi hg
  replace hk := hk.mi hg
  replace ho := ho.mi hg
  replace hr := hr.mi hg
  go_enter Tryz.func34, Tryz.ntmps34
  go_upto_region 1 with fail
  generalize w.alloc (.cells #[.slice A1 n1 c1, .slice A2 n2 c2, .slice A3 n3 c3, .slice A4 n4 c4] 27) = W at hX hg hd hk ho hr ⊢
  have x0 := hX.cell 0
  go_wp2_with fail
  refine (markIntSS_any lo hi _ n1 k W hd (by omega) _).mono ?_
  rintro e w1 ⟨⟨y1, rfl, b1⟩, m1⟩
  replace hg := hg.trans m1
  replace hX := hX.mi0 m1
  replace hk := hk.mi m1
  replace ho := ho.mi m1
  replace hr := hr.mi m1
  clear x0 m1 hd
  have x1 := hX.cell 1
  go_wp2_with fail
  refine (markIntS_any lo hi _ n2 y1 w1 hk (by omega) _).mono ?_
  rintro e w2 ⟨rfl, m1, -, -⟩
  replace hg := hg.trans m1
  replace hX := hX.mi0 m1
  replace ho := ho.mi m1
  replace hr := hr.mi m1
  clear x1 m1 hk
  have x2 := hX.cell 2
  go_wp2_with fail
  refine (markIntS_any lo hi _ n3 (y1 + n2) w2 ho (by omega) _).mono ?_
  rintro e w3 ⟨rfl, m1, -, -⟩
  replace hg := hg.trans m1
  replace hX := hX.mi0 m1
  replace hr := hr.mi m1
  clear x2 m1 ho
  have x3 := hX.cell 3
  go_wp2_with fail
  refine (markIntSS_any lo hi _ n4 (y1 + n2 + n3) w3 hr (by omega) _).mono ?_
  rintro e w4 ⟨⟨y4, rfl, b4⟩, m1⟩
  replace hg := hg.trans m1
  go_wp2_with fail
  go_ret
  exact ⟨⟨y4, rfl, by omega⟩, hg⟩
def sizeC (c : Crew) : Nat := sizeL c.deques + c.counts.length + c.done.length + sizeL c.rows
def marksC (k : Nat) (c : Crew) : Crew := ⟨marksL k c.deques, marksI (k + sizeL c.deques) c.counts.length, marksI (k + sizeL c.deques + c.counts.length) c.done.length, marksL (k + sizeL c.deques + c.counts.length + c.done.length) c.rows⟩
theorem LQ.gsI {S : Nat → Prop} {w w' : World} {base : Nat} {v : Value} {ll : List (List Int)} {xs : List Value} (h : LQ w base v ll xs) (k : GS S w w') (hS : ∀ b, S b → ∃ cur, Blk w b 3 cur) (hx : ∀ u ∈ xs, ∀ g, u.ownBlock = some g → ¬ S g) : LQ w' base v ll xs :=
  h.gs k (fun g hg hs => by
    obtain ⟨cur, hc⟩ := hS g hs
    exact NotE.own (E := 3) h.1 (by decide) g hg cur hc) hx
theorem Blk.gsI {S : Nat → Prop} {w w' : World} {g : Nat} {t : TypeId} {cs : Array Value} (h : Blk w g t cs) (k : GS S w w') (hS : ∀ b, S b → ∃ cur, Blk w b 3 cur) (ht : t ≠ 3) : Blk w' g t cs := by
  have h1 : w.heap[g]? = some (.cells cs t (0, 0)) := h
  refine (k.block g h.lt (fun hs => ?_)).trans h1
  obtain ⟨cur, hc⟩ := hS g hs
  exact h.ne_ hc ht rfl
theorem LQ.blk {w : World} {base : Nat} {v : Value} {ll : List (List Int)} {xs : List Value} (h : LQ w base v ll xs) : ∀ b, (∃ u ∈ xs, u.ownBlock = some b) → ∃ cur, Blk w b 3 cur := by
  rintro b ⟨u, hu, hb⟩
  obtain ⟨i, hi, rfl⟩ := List.getElem_of_mem hu
  have hl := h.len
  obtain ⟨u', k1, k2⟩ := h.2 i _ (List.getElem?_eq_getElem (by omega))
  rw [List.getElem?_eq_getElem hi] at k1
  cases k1
  exact k2.block hb
def MarkCO (base k : Nat) (v : Value) (c : Crew) (w : World) (e : Ending) (w' : World) : Prop := e = .returned (.int .i64 (k + sizeC c : Nat)) ∧ CV w' v (marksC k c) ∧ Zn base w.heap.size w w' ∧ ∀ g cs, Blk w g 27 cs → Blk w' g 27 cs
set_option maxHeartbeats 1600000 in
set_option maxRecDepth 20000 in
theorem markCrew_own (base : Nat) (v : Value) (c : Crew) (k : Nat) (w : World) (h : OwnF w base v c) (hf : fitsC c) (hs : sizeC c ≤ 1000000000) (hkb : k ≤ 1000000000000000000) (kz : Int) (hkz : kz = (k : Nat) := by omega) :
    Calls Tryz.prog 34 #[v, .int .i64 kz] w (MarkCO base k v c w) := by
  subst hkz
  obtain ⟨d, q, o, r, xs, ys, rfl, hd, hk, ho, hr, hap, -⟩ := h
  obtain ⟨A1, n1, c1, rfl⟩ := hd.rl.val
  obtain ⟨A2, n2, c2, rfl⟩ := hk.ri.val
  obtain ⟨A3, n3, c3, rfl⟩ := ho.ri.val
  obtain ⟨A4, n4, c4, rfl⟩ := hr.rl.val
  obtain ⟨hk1, hap⟩ := List.pairwise_cons.1 hap
  obtain ⟨ho1, hap⟩ := List.pairwise_cons.1 hap
  obtain ⟨hapx, hapy, hxy⟩ := List.pairwise_append.1 hap
  have Hf := Lib.hid hf
  have hs1 : sizeL c.deques ≤ 1000000000 ∧ c.counts.length ≤ 1000000000 ∧ c.done.length ≤ 1000000000 ∧ sizeL c.rows ≤ 1000000000 := by unfold sizeC at hs; omega
  have Hs := Lib.hid hs1
  have hX := Blk.new w 27 #[.slice A1 n1 c1, .slice A2 n2 c2, .slice A3 n3 c3, .slice A4 n4 c4]
  have hg := World.grownBy_alloc w (.cells #[.slice A1 n1 c1, .slice A2 n2 c2, .slice A3 n3 c3, .slice A4 n4 c4] 27) none
  have ldx := hd.lts
  have lk := hk.lt
  have lo := ho.lt
  have lry := hr.lq.lts
  have hz : Zn base w.heap.size w _ := Zn.of_gb hg (fun _ e => by cases e)
  have hkp : ∀ g cs, Blk w g 27 cs → Blk _ g 27 cs := fun g cs hb => hb.grown hg (by simp)
  replace hd := hd.new hg
  have hk' := (hk.new hg).qi
  have ho' := (ho.new hg).qi
  have hr' := (hr.new hg).lq
  clear hf hs hs1 hk ho hr hap hg
  go_enter Tryz.func34, Tryz.ntmps34
  go_upto_region 1 with fail
  generalize w.alloc (.cells #[.slice A1 n1 c1, .slice A2 n2 c2, .slice A3 n3 c3, .slice A4 n4 c4] 27) = W at hX hz hkp hd hk' ho' hr' ⊢
  have x0 := hX.cell 0
  go_wp2_with fail
  refine (markIntSS_q base _ c.deques xs k W hd hapx Hs.out.1 (by omega) Hf.out.1.2 _).mono ?_
  rintro e w1 ⟨rfl, hd1, hS⟩
  have hB := hd.blk
  replace hX := hX.gsI hS hB (by decide)
  replace hkp : ∀ g cs, Blk w g 27 cs → Blk _ g 27 cs := fun g cs hb => (hkp g cs hb).gsI hS hB (by decide)
  replace hk' := hk'.gs hS (fun g hg => by rintro ⟨u, hu, hg'⟩; exact hk1 u (by simp [hu]) g hg hg')
  replace ho' := ho'.gs hS (fun g hg => by rintro ⟨u, hu, hg'⟩; exact ho1 u (by simp [hu]) g hg hg')
  replace hr' := hr'.gsI hS hB (fun u hu g hg => by rintro ⟨u', hu', hg'⟩; exact hxy u' hu' u hu g hg' hg)
  replace hz := hz.trans (hS.zn (fun g hg => by obtain ⟨u, hu, hg'⟩ := hg; exact ldx u hu g hg'))
  clear x0 hd hS hB
  have x1 := hX.cell 1
  obtain ⟨y1, hy1⟩ : ∃ y1, y1 = k + sizeL c.deques := ⟨_, rfl⟩
  rw [← hy1] at ⊢
  have hyb : y1 ≤ 1000000000000000000 + 1000000000 := by have := Hs.out.1; omega
  go_wp2_with fail
  refine (markInts_q base _ c.counts y1 w1 hk' Hf.out.2.1 (by omega) _).mono ?_
  rintro e w2 ⟨rfl, hk2, hS⟩
  have hS' := GS.of_gb hS
  have hB : ∀ b, (Value.slice A2 n2 c2).ownBlock = some b → ∃ cur, Blk w1 b 3 cur := fun b hb => hk'.block hb
  replace hX := hX.gsI hS' hB (by decide)
  replace hkp : ∀ g cs, Blk w g 27 cs → Blk _ g 27 cs := fun g cs hb => (hkp g cs hb).gsI hS' hB (by decide)
  replace hd1 := hd1.gsI hS' hB (fun u hu g hg hg' => hk1 u (by simp [hu]) g hg' hg)
  replace ho' := ho'.gs hS' (fun g hg hg' => hk1 _ (by simp) g hg' hg)
  replace hr' := hr'.gsI hS' hB (fun u hu g hg hg' => hk1 u (by simp [hu]) g hg' hg)
  replace hz := hz.trans (hS'.zn (fun g hg => lk g hg))
  clear x1 hk' hS hS' hB
  have x2 := hX.cell 2
  obtain ⟨y2, hy2⟩ : ∃ y2, y2 = y1 + c.counts.length := ⟨_, rfl⟩
  rw [← hy2] at ⊢
  have hyb2 : y2 ≤ 1000000000000000000 + 2000000000 := by have := Hs.out.2.1; omega
  go_wp2_with fail
  refine (markInts_q base _ c.done y2 w2 ho' Hf.out.2.2.1 (by omega) _).mono ?_
  rintro e w3 ⟨rfl, ho2, hS⟩
  have hS' := GS.of_gb hS
  have hB : ∀ b, (Value.slice A3 n3 c3).ownBlock = some b → ∃ cur, Blk w2 b 3 cur := fun b hb => ho'.block hb
  replace hX := hX.gsI hS' hB (by decide)
  replace hkp : ∀ g cs, Blk w g 27 cs → Blk _ g 27 cs := fun g cs hb => (hkp g cs hb).gsI hS' hB (by decide)
  replace hd1 := hd1.gsI hS' hB (fun u hu g hg hg' => ho1 u (by simp [hu]) g hg' hg)
  replace hk2 := hk2.gs hS' (fun g hg hg' => hk1 _ (by simp) g hg hg')
  replace hr' := hr'.gsI hS' hB (fun u hu g hg hg' => ho1 u (by simp [hu]) g hg' hg)
  replace hz := hz.trans (hS'.zn (fun g hg => lo g hg))
  clear x2 ho' hS hS' hB
  have x3 := hX.cell 3
  obtain ⟨y3, hy3⟩ : ∃ y3, y3 = y2 + c.done.length := ⟨_, rfl⟩
  rw [← hy3] at ⊢
  have hyb3 : y3 ≤ 1000000000000000000 + 3000000000 := by have := Hs.out.2.2.1; omega
  go_wp2_with fail
  refine (markIntSS_q base _ c.rows ys y3 w3 hr' hapy Hs.out.2.2.2 (by omega) Hf.out.2.2.2.2 _).mono ?_
  rintro e w4 ⟨rfl, hr2, hS⟩
  have hB := hr'.blk
  replace hkp : ∀ g cs, Blk w g 27 cs → Blk _ g 27 cs := fun g cs hb => (hkp g cs hb).gsI hS hB (by decide)
  replace hd1 := hd1.gsI hS hB (fun u hu g hg => by rintro ⟨u', hu', hg'⟩; exact hxy u hu u' hu' g hg hg')
  replace hk2 := hk2.gs hS (fun g hg => by rintro ⟨u, hu, hg'⟩; exact hk1 u (by simp [hu]) g hg hg')
  replace ho2 := ho2.gs hS (fun g hg => by rintro ⟨u, hu, hg'⟩; exact ho1 u (by simp [hu]) g hg hg')
  replace hz := hz.trans (hS.zn (fun g hg => by obtain ⟨u, hu, hg'⟩ := hg; exact lry u hu g hg'))
  have hcv : Hid (CV w4 (.agg #[.slice A1 n1 c1, .slice A2 n2 c2, .slice A3 n3 c3, .slice A4 n4 c4]) (marksC k c)) := by
    show CV _ _ _
    unfold marksC
    rw [← hy1, ← hy2, ← hy3]
    exact ⟨_, _, _, _, rfl, hd1.rl, hk2.ri, ho2.ri, hr2.rl⟩
  have Hy : Hid (y3 + sizeL c.rows = k + sizeC c) := by
    show _ = _
    unfold sizeC
    omega
  obtain ⟨m4, hm4⟩ : ∃ m4, m4 = sizeL c.rows := ⟨_, rfl⟩
  rw [← hm4] at Hy ⊢
  clear hX hd1 hk2 ho2 hr2 hr' hS hB x3 hy1 hy2 hy3 hm4
  go_wp2_with fail
  go_ret
  exact ⟨by rw [← Hy.out]; rfl, hcv.out, hz, hkp⟩
set_option maxHeartbeats 800000 in
set_option maxRecDepth 20000 in
theorem heldCrew_any (v : Value) (c : Crew) (k : Nat) (w : World) (h : CV w v (marksC k c)) (hf : fitsC c) (hs : sizeC c ≤ 1000000000) (hkb : k ≤ 1000000000000000000) (kz : Int) (hkz : kz = (k : Nat) := by omega) :
    Calls Tryz.prog 35 #[v, .int .i64 kz] w fun e w' => e = .returned (.int .i64 (k + sizeC c : Nat)) ∧ w.grownBy w' none := by
  subst hkz
  obtain ⟨A1, n1, c1, A2, n2, c2, A3, n3, c3, A4, n4, c4, rfl, -, -, -, -⟩ := h.form
  have hs1 : sizeL c.deques ≤ 1000000000 ∧ c.counts.length ≤ 1000000000 ∧ c.done.length ≤ 1000000000 ∧ sizeL c.rows ≤ 1000000000 := by unfold sizeC at hs; omega
  have Hs := Lib.hid hs1
  have Hf := Lib.hid hf
  have hX := h.box
  have hg := World.grownBy_alloc w (.cells #[.slice A1 n1 c1, .slice A2 n2 c2, .slice A3 n3 c3, .slice A4 n4 c4] 27) none
  clear h hf hs hs1
  go_enter Tryz.func35, Tryz.ntmps35
  go_upto_region 1 with fail
  generalize w.alloc (.cells #[.slice A1 n1 c1, .slice A2 n2 c2, .slice A3 n3 c3, .slice A4 n4 c4] 27) = W at hX hg ⊢
  have x0 := hX.d0
  have x1 := hX.d1
  have x2 := hX.d2
  have x3 := hX.d3
  have hd : Hid (RL W (.slice A1 n1 c1) (marksL k c.deques)) := hX.dq
  obtain ⟨y1, hy1⟩ : ∃ y1, y1 = k + sizeL c.deques := ⟨_, rfl⟩
  obtain ⟨y2, hy2⟩ : ∃ y2, y2 = y1 + c.counts.length := ⟨_, rfl⟩
  obtain ⟨y3, hy3⟩ : ∃ y3, y3 = y2 + c.done.length := ⟨_, rfl⟩
  have hk : Hid (RI W (.slice A2 n2 c2) (marksI y1 c.counts.length)) := by rw [hy1]; exact hX.ct
  have ho : Hid (RI W (.slice A3 n3 c3) (marksI y2 c.done.length)) := by rw [hy2, hy1]; exact hX.dn
  have hr : Hid (RL W (.slice A4 n4 c4) (marksL y3 c.rows)) := by rw [hy3, hy2, hy1]; exact hX.ro
  have hyb : y1 ≤ 1000000000000000000 + 1000000000 := by have := Hs.out.1; omega
  have hyb2 : y2 ≤ 1000000000000000000 + 2000000000 := by have := Hs.out.2.1; omega
  have hyb3 : y3 ≤ 1000000000000000000 + 3000000000 := by have := Hs.out.2.2.1; omega
  have Hy : Hid (y3 + sizeL c.rows = k + sizeC c) := by
    show _ = _
    unfold sizeC
    omega
  clear hX
  go_wp2_with fail
  refine (heldIntSS_any _ c.deques k W hd.out Hs.out.1 (by omega) Hf.out.1.2 _).mono ?_
  rintro e w1 ⟨rfl, rfl⟩
  rw [← hy1]
  go_wp2_with fail
  refine (heldIntS_any _ c.counts.length y1 W hk.out (by omega) Hf.out.2.1 _).mono ?_
  rintro e w1 ⟨rfl, rfl⟩
  rw [← hy2]
  go_wp2_with fail
  refine (heldIntS_any _ c.done.length y2 W ho.out (by omega) Hf.out.2.2.1 _).mono ?_
  rintro e w1 ⟨rfl, rfl⟩
  rw [← hy3]
  go_wp2_with fail
  refine (heldIntSS_any _ c.rows y3 W hr.out Hs.out.2.2.2 (by omega) Hf.out.2.2.2.2 _).mono ?_
  rintro e w1 ⟨rfl, rfl⟩
  obtain ⟨m4, hm4⟩ : ∃ m4, m4 = sizeL c.rows := ⟨_, rfl⟩
  rw [← hm4] at Hy ⊢
  clear hd hk ho hr hy1 hy2 hy3 hm4
  go_wp2_with fail
  go_ret
  exact ⟨by rw [← Hy.out]; rfl, hg⟩
end Go.Proofs.YtihobnheficpjaaGreatDoor
