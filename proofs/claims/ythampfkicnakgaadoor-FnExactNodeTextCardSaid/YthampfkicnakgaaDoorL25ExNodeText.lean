/- Walks: laws.FnExactNodeText. -/
import Derived.Test.YthampfkicnakgaaDoorT14Node
import Derived.Test.YthampfkicnakgaaDoorE5Same
namespace Go.Proofs.YthampfkicnakgaaDoor
open Go.RowKit
set_option maxHeartbeats 800000 in
set_option maxRecDepth 20000 in
theorem fnExactNodeText_any (w : World) (f r : Value) (nd : Node) (hf : ArgI w.heap.size w f nd.frm) (hr : ArgI w.heap.size w r nd.row) (hp : PTab w) (hkw : KWords w) :
    Calls Tryd.prog 7 #[.agg #[.int .i64 nd.kind, f, r]] w fun e w' => e = .returned (.bool true) ∧ w.grownBy w' none := by
  have HK := Lib.hid hkw
  clear hkw
  go_enter Tryd.func7, Tryd.ntmps7
  go_wp2_with fail
  obtain ⟨Af, nf, cf, rfl, -, -, -⟩ := hf.form
  obtain ⟨Ar, nr, cr, rfl, -, -, -⟩ := hr.form
  have hB := Blk.new w 34 #[.int .i64 nd.kind, .slice Af nf cf, .slice Ar nr cr]
  have hg0 := World.grownBy_alloc w (.cells #[.int .i64 nd.kind, .slice Af nf cf, .slice Ar nr cr] 34) none
  generalize w.alloc (.cells #[.int .i64 nd.kind, .slice Af nf cf, .slice Ar nr cr] 34) = wa at hB hg0 ⊢
  refine (szNode_any w.heap.size _ _ nd 1048576 _ (hf.new hg0 (Nat.le_refl _)) (hr.new hg0 (Nat.le_refl _)) hg0.size (by omega) (by omega)).mono ?_
  rintro e w1 ⟨⟨z, rfl, hz1, hz2, hz3⟩, hg1⟩
  have hB1 := hB.grown hg1 (by simp)
  replace hg1 := gb_trans hg0 hg1
  clear hB hg0
  have x0 := hB1.cell 0
  have x1 := hB1.cell 1
  have x2 := hB1.cell 2
  by_cases hz : 0 ≤ z
  · obtain ⟨hl1, hl2⟩ := hz3 hz
    have Hl1 : Hid (nd.frm.length ≤ 1048576) := by show _ ≤ _; omega
    have Hl2 : Hid (nd.row.length ≤ 1048576) := by show _ ≤ _; omega
    clear hz3 hl1 hl2
    go_wp2_with fail
    refine (toNode_any w.heap.size _ _ nd w1 (hf.new hg1 (Nat.le_refl _)) (hr.new hg1 (Nat.le_refl _)) hg1.size Hl1.out Hl2.out).mono ?_
    rintro e w2 ⟨f2, r2, rfl, hf2, hr2, hg2⟩
    have g2 := gb_trans hg1 hg2
    go_wp2_with fail
    refine (specNodeText_any _ nd w2 ⟨f2, r2, rfl, hf2.ri, hr2.ri⟩).mono ?_
    rintro e w3 ⟨rfl, hg3⟩
    have g3 := gb_trans g2 hg3
    have hB3 := (hB1.grown hg2 (by simp)).grown hg3 (by simp)
    clear hg1 hg2 hg3 g2 hf2 hr2 x0 x1 x2 hB1
    have x0 := hB3.cell 0
    have x1 := hB3.cell 1
    have x2 := hB3.cell 2
    go_wp2_with fail
    refine (toNode_any w.heap.size _ _ nd w3 (hf.new g3 (Nat.le_refl _)) (hr.new g3 (Nat.le_refl _)) g3.size Hl1.out Hl2.out).mono ?_
    rintro e w4' ⟨f4, r4, rfl, hf4', hr4', hg4'⟩
    obtain ⟨Bf, mf, ef, rfl⟩ := hf4'.ri.val
    obtain ⟨Br, mr, er, rfl⟩ := hr4'.ri.val
    have hX := Blk.new w4' 31 #[.int .i64 nd.kind, .slice Bf mf ef, .slice Br mr er]
    have hga := World.grownBy_alloc w4' (.cells #[.int .i64 nd.kind, .slice Bf mf ef, .slice Br mr er] 31) none
    go_wp2_with fail
    generalize hxb : w4'.heap.size = xb at hX ⊢
    clear hxb
    generalize w4'.alloc (.cells #[.int .i64 nd.kind, .slice Bf mf ef, .slice Br mr er] 31) = w4 at hX hga ⊢
    have hf4 := hf4'.new hga
    have hr4 := hr4'.new hga
    have hg4 := gb_trans hg4' hga
    clear hf4' hr4' hg4' hga
    have g4 := gb_trans g3 hg4
    refine (implNodeText_any _ nd w4 ⟨_, _, rfl, hf4.ri, hr4.ri⟩ (hp.new g4) (HK.out.new g4)).mono ?_
    rintro e w5 ⟨rfl, hg5⟩
    have g5 := gb_trans g4 hg5
    have hf5 := hf4.new hg5
    have hr5 := hr4.new hg5
    have hB5 := (hB3.grown hg4 (by simp)).grown hg5 (by simp)
    have hX5 := hX.grown hg5 (by simp)
    clear hg4 hg5 g3 g4 hf4 hr4 x0 x1 x2 hB3 hX
    have y0 := hX5.cell 0
    have y1 := hX5.cell 1
    have y2 := hX5.cell 2
    have x0 := hB5.cell 0
    have x1 := hB5.cell 1
    have x2 := hB5.cell 2
    generalize nodeText nd = q at *
    go_wp2_with fail
    have gd := gb_drew (gb_refl w5 none)
    have hf5a := hf.new g5 (Nat.le_refl _)
    have hr5a := hr.new g5 (Nat.le_refl _)
    have hs5 := g5.size
    go_region_held3 (fun w' => w'.cell? ⟨xb, 0, none⟩ = some (.int .i64 nd.kind) ∧ w'.cell? ⟨xb, 1, none⟩ = some (.slice Bf mf ef) ∧ w'.cell? ⟨xb, 2, none⟩ = some (.slice Br mr er) ∧ w'.cell? ⟨w.heap.size, 0, none⟩ = some (.int .i64 nd.kind) ∧ w'.cell? ⟨w.heap.size, 1, none⟩ = some (.slice Af nf cf) ∧ w'.cell? ⟨w.heap.size, 2, none⟩ = some (.slice Ar nr cr)) (go_keep)
      (first
        | (go_at_call 20; refine (toNode_any w.heap.size _ _ nd _ (by exact hf5a) (by exact hr5a) (by exact hs5) Hl1.out Hl2.out).mono ?_; rintro e w6 ⟨f6, r6, rfl, hf6, hr6, hg6⟩; have z0 := hg6.cell (by exact y0) (by simp); have z1 := hg6.cell (by exact y1) (by simp); have z2 := hg6.cell (by exact y2) (by simp); have l0 := hg6.cell (by exact x0) (by simp); have l1 := hg6.cell (by exact x1) (by simp); have l2 := hg6.cell (by exact x2) (by simp); have hg6' := gb_trans gd hg6)
        | (go_at_call 21; refine (eqNode_any _ _ f6 r6 nd w6 (by exact (hf5.new hg6').ri) (by exact (hr5.new hg6').ri) hf6.ri hr6.ri).mono ?_; rintro e w7 ⟨rfl, hg7⟩; have m0 := hg7.cell (by exact z0) (by simp); have m1 := hg7.cell (by exact z1) (by simp); have m2 := hg7.cell (by exact z2) (by simp); have k0 := hg7.cell (by exact l0) (by simp); have k1 := hg7.cell (by exact l1) (by simp); have k2 := hg7.cell (by exact l2) (by simp)))
    go_wp2_with fail
    go_ret
    exact ⟨rfl, gb_trans (gb_trans g5 hg6') hg7⟩
  · clear hz3
    go_wp2_with fail
    go_ret
    exact ⟨rfl, hg1⟩
end Go.Proofs.YthampfkicnakgaaDoor
