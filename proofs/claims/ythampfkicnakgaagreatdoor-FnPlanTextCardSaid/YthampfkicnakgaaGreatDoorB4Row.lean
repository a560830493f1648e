/- Walks: spec.l91Row. -/
import Derived.Test.YthampfkicnakgaaGreatDoorB3Open
namespace Go.Proofs.YthampfkicnakgaaGreatDoor
open Go.RowKit

def RowPost (B0 rb : Nat) (w : World) (p : Int) (n : Nat) (e : Ending) (w' : World) : Prop :=
  ∃ v l, e = .returned v ∧ RI w' v l ∧ l.length = n ∧ (∀ x ∈ l, -1 ≤ x ∧ x ≤ 1009) ∧ ∃ p', p ≤ p' ∧ p' ≤ p + 3 * n + 3 ∧ Rdr B0 w' rb p' ∧ w.grownBy w' (some rb)

set_option maxHeartbeats 400000 in
theorem l91Row_any (B0 rb : Nat) (p : Int) (n : Nat) (w : World) (h : Rdr B0 w rb p) (hp0 : 0 ≤ p) (hp : p ≤ 900000) (hn : n ≤ 20) :
    Calls Tryz.prog 22 #[.pointer (some ⟨rb, 0, none⟩), .int .i64 n] w (RowPost B0 rb w p n) := by
  have hB : B0 ≤ w.heap.size := by obtain ⟨_, _, _, _, _, h4, _⟩ := h; exact h4
  go_enter Tryz.func22, Tryz.ntmps22
  go_wp2_with fail
  go_loopw [5, 6] (fun v i wr => ∃ (k : Nat) (l : List Int) (q : Int), k ≤ n ∧ i = .int .i64 k ∧ OwnI wr w.heap.size v l ∧ l.length = k ∧ (∀ x ∈ l, -1 ≤ x ∧ x ≤ 1009) ∧
     p ≤ q ∧ q ≤ p + 3 * k ∧ Rdr B0 wr rb q ∧ w.grownBy wr (some rb)) (fun _ i _ => n - (intOf i).toNat)
  case atStart => exact ⟨0, [], p, by omega, rfl, OwnI.empty w (Nat.le_refl _), rfl, by simp, by omega, by omega, h.new (World.grownBy_alloc _ _ _), gb_alloc (gb_refl w _) _⟩
  case round =>
    obtain ⟨k, l, q, hk, rfl, hown, hl, hin, hq1, hq2, hrd, hg⟩ := hrel
    have hl20 : l.length ≤ 20 := by omega
    have Hl := Lib.hid hl
    have Hin := Lib.hid hin
    clear hl hin
    by_cases hlt : k < n
    · go_wp2_with fail
      refine (pick_any B0 rb q _ _ hrd (by omega) (by omega)).mono ?_
      rintro e w1 ⟨r1, rfl, hr1, _, hrd1, hg1⟩
      go_wp2_with fail
      refine (pick_any B0 rb (q + 1) _ _ hrd1 (by omega) (by omega)).mono ?_
      rintro e w2 ⟨r2, rfl, hr2, _, hrd2, hg2⟩
      go_wp2_with fail
      refine (pick_any B0 rb _ _ _ (hrd2.new (World.grownBy_alloc _ _ _)) (by omega) (by omega)).mono ?_
      rintro e w3 ⟨r3, rfl, hr3, _, hrd3, hg3⟩
      have hb3 : Blk w3 w2.heap.size 3 #[.int .i64 r1, .int .i64 r2] := (Blk.new w2 _ _).grown hg3 (by
        have := hrd2.lt
        intro e
        cases e
        omega)
      have h3 := hr3 (by omega)
      have h1 := hr1 (by omega)
      have h2 := hr2 (by omega)
      obtain ⟨x, hx1, hx2, hcell⟩ : ∃ x : Int, -1 ≤ x ∧ x ≤ 1009 ∧ w3.cell? ⟨w2.heap.size, r3.toNat, none⟩ = some (.int .i64 x) := by
        rcases (show r3 = 0 ∨ r3 = 1 by omega) with rfl | rfl
        · exact ⟨r1, by omega, by omega, hb3.cell 0⟩
        · exact ⟨r2, by omega, by omega, hb3.cell 1⟩
      have hg03 : wr.grownBy w3 (some rb) := gb_trans (gb_trans hg1 (gb_trans hg2 (gb_alloc (gb_refl w2 _) _))) hg3
      have hown3 := hown.grown hg03 (hrd.notE (by decide))
      have hsz := (gb_trans hg hg03).size
      clear hb3 hg1 hg2 hg3 hrd1 hrd2 hown hr1 hr2 hr3
      go_wp2_with (at_builtin; go_must (refine wp_push_int (.tmp 13) (.tmp 23) rfl rfl hown3 (by omega) hsz rfl rfl ?_))
      intro v' w4 hown4 hg4
      go_wp2_with fail
      go_roundw
      case rel => 
        refine ⟨k + 1, l ++ [x], q + 1 + 1 + 1, by omega, by go_num, hown4, by simp [Hl.out], ?_, by omega, by omega, ?_, ?_⟩
        · intro y hy
          rcases List.mem_append.1 hy with hy | hy
          · exact Hin.out y hy
          · simp at hy; omega
        · exact hrd3.own hown3 (by decide) hB hg4
        · exact hown3.gb (gb_trans hg hg03) hg4 (Nat.le_refl _)
      case measure => simp [intOf]; omega
    · have hkn : k = n := by omega
      subst hkn
      by_cases hn0 : (0 : Int) < k
      · go_wp2_with fail
        refine (pick_any B0 rb q _ _ hrd (by omega) (by omega)).mono ?_
        rintro e w1 ⟨r1, rfl, hr1, _, hrd1, hg1⟩
        have hown1 := hown.grown hg1 (hrd.notE (by decide))
        by_cases hr0 : r1 = 0
        · subst hr0
          go_wp2_with fail
          refine (pick_any B0 rb _ _ _ hrd1 (by omega) (by omega)).mono ?_
          rintro e w2 ⟨r2, rfl, hr2, _, hrd2, hg2⟩
          go_wp2_with fail
          refine (pick_any B0 rb _ _ _ (hrd2.new (World.grownBy_alloc _ _ _)) (by omega) (by omega)).mono ?_
          rintro e w3 ⟨r3, rfl, hr3, _, hrd3, hg3⟩
          have hb3 : Blk w3 w2.heap.size 3 #[.int .i64 (-1), .int .i64 1008, .int .i64 1009] := (Blk.new w2 _ _).grown hg3 (by
            have := hrd2.lt
            intro e
            cases e
            omega)
          have h3 := hr3 (by omega)
          have h2 := hr2 (by omega)
          obtain ⟨x, hx1, hx2, hcell⟩ : ∃ x : Int, -1 ≤ x ∧ x ≤ 1009 ∧ w3.cell? ⟨w2.heap.size, r3.toNat, none⟩ = some (.int .i64 x) := by
            rcases (show r3 = 0 ∨ r3 = 1 ∨ r3 = 2 by omega) with rfl | rfl | rfl
            · exact ⟨_, by omega, by omega, hb3.cell 0⟩
            · exact ⟨_, by omega, by omega, hb3.cell 1⟩
            · exact ⟨_, by omega, by omega, hb3.cell 2⟩
          have hg13 : w1.grownBy w3 (some rb) := gb_trans (gb_trans hg2 (gb_alloc (gb_refl w2 _) _)) hg3
          have hown3 := hown1.grown hg13 (hrd1.notE (by decide))
          have hl' := Hl.out
          obtain ⟨g, cap, cur, rfl, hcap, hgb, hblk, hcs⟩ := hown3.form (by omega)
          have hlr : r2.toNat < l.length := by omega
          have hc2 := hcs r2.toNat l[r2.toNat] (List.getElem?_eq_getElem hlr)
          have hf2 := hblk.frozen r2.toNat
          have hgw : w.grownBy (w3.setCell ⟨g, r2.toNat, none⟩ (.int .i64 x)) (some rb) := gb_set (gb_trans (gb_trans hg hg1) hg13) (.inl hgb) _
          have hrd' : Rdr B0 (w3.setCell ⟨g, r2.toNat, none⟩ (.int .i64 x)) rb (q + 1 + 1 + 1) := hrd3.kept (gb_set (gb_refl w3 (some g)) (.inr rfl) _) (fun g' e => by
            cases e
            obtain ⟨bv, hbb⟩ := hrd3.blk
            exact ⟨by omega, hblk.ne_ hbb (by decide)⟩)
          have Hfin : Hid (RowPost B0 rb w p k (.returned (.slice (some ⟨g, 0, none⟩) l.length cap)) (w3.setCell ⟨g, r2.toNat, none⟩ (.int .i64 x))) := by
            refine ⟨_, l.set r2.toNat x, rfl, (hown3.set_ rfl r2.toNat x).ri, by simpa using hl', ?_, _, by omega, by omega, hrd', hgw⟩
            intro y hy
            rcases List.mem_or_eq_of_mem_set hy with hy | rfl
            · exact Hin.out y hy
            · exact ⟨hx1, hx2⟩
          clear hb3 hown3 hblk hcs hgw hrd' hl' hown1 hown
          go_wp2_with fail
          go_ret
          exact Hfin.out
        · go_wp2_with fail
          go_ret
          exact ⟨_, l, rfl, hown1.ri, Hl.out, Hin.out, _, by omega, by omega, hrd1, gb_trans hg hg1⟩
      · go_wp2_with fail
        go_ret
        exact ⟨_, l, rfl, hown.ri, Hl.out, Hin.out, _, by omega, by omega, hrd, hg⟩
end Go.Proofs.YthampfkicnakgaaGreatDoor
