/- Walks: the laws' comparisons of plans. -/
import Derived.Test.YthampfkicnakgaaDoorE4Copy
import Derived.Deep.RegionHeld3
namespace Go.Proofs.YthampfkicnakgaaDoor
open Go.RowKit

set_option maxRecDepth 20000 in
theorem eqNode_any (f r f' r' : Value) (nd : Node) (w : World) (hf : RI w f nd.frm) (hr : RI w r nd.row) (hf' : RI w f' nd.frm) (hr' : RI w r' nd.row) :
    Calls Tryd.prog 21 #[.agg #[.int .i64 nd.kind, f, r], .agg #[.int .i64 nd.kind, f', r']] w fun e w' => e = .returned (.bool true) ∧ w.grownBy w' none := by
  have B0 : Blk ((w.alloc (.cells #[.int .i64 nd.kind, f, r] 31)).alloc (.cells #[.int .i64 nd.kind, f', r'] 31)) w.heap.size 31 #[.int .i64 nd.kind, f, r] := (Blk.new w _ _).alloc _
  have B1 : Blk ((w.alloc (.cells #[.int .i64 nd.kind, f, r] 31)).alloc (.cells #[.int .i64 nd.kind, f', r'] 31)) (w.heap.size + 1) 31 #[.int .i64 nd.kind, f', r'] := by
    have := Blk.new (w.alloc (.cells #[.int .i64 nd.kind, f, r] 31)) 31 #[.int .i64 nd.kind, f', r']
    rw [World.size_alloc] at this
    exact this
  have hg0 : w.grownBy ((w.alloc (.cells #[.int .i64 nd.kind, f, r] 31)).alloc (.cells #[.int .i64 nd.kind, f', r'] 31)) none := gb_alloc (gb_alloc (gb_refl w none) _) _
  go_enter Tryd.func21, Tryd.ntmps21
  go_wp2_with fail
  generalize ((w.alloc (.cells #[.int .i64 nd.kind, f, r] 31)).alloc (.cells #[.int .i64 nd.kind, f', r'] 31)) = X at *
  refine (eqIntS_any f f' nd.frm X (hf.new hg0) (hf'.new hg0)).mono ?_
  rintro e w1 ⟨rfl, hg1⟩
  have k1 := (B0.grown hg1 (by simp)).cell 2
  have k2 := (B1.grown hg1 (by simp)).cell 2
  go_wp2_with fail
  refine (eqIntS_any r r' nd.row w1 ((hr.new hg0).new hg1) ((hr'.new hg0).new hg1)).mono ?_
  rintro e w2 ⟨rfl, hg2⟩
  go_wp2_with fail
  go_ret
  exact ⟨rfl, gb_trans (gb_trans hg0 hg1) hg2⟩

end Go.Proofs.YthampfkicnakgaaDoor
