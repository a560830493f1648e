/- Walks: the drawers of caches. -/
import Derived.Test.YtjlnhijabdkagaaS9Run
namespace Go.Proofs.Ytjlnhijabdkagaa
open Go.RowKit

def CallPost (B0 rb : Nat) (w : World) (p : Int) (e : Ending) (w' : World) : Prop :=
  ∃ (kind : Int) (rv : Value) (rows : List (List Int)), e = .returned (.tuple #[.int .i64 kind, rv]) ∧ 1 ≤ kind ∧ kind ≤ 5 ∧ RL w' rv rows ∧ ∃ p', p ≤ p' ∧ p' ≤ p + 10 ∧ Rdr B0 w' rb p' ∧ w.grownBy w' (some rb)
set_option maxHeartbeats 800000 in
set_option maxRecDepth 20000 in
theorem l92Call_any (B0 rb : Nat) (p : Int) (w : World) (h : Rdr B0 w rb p) (hp0 : 0 ≤ p) (hp : p ≤ 900000) :
    Calls Try.prog 116 #[.pointer (some ⟨rb, 0, none⟩)] w (CallPost B0 rb w p) := by
  have hB : B0 ≤ w.heap.size := by obtain ⟨_, _, _, _, _, h4, _⟩ := h; exact h4
  go_enter Try.func116, Try.ntmps116
  go_wp2_with fail
  refine (pick_any B0 rb p _ _ h (by omega) (by omega)).mono ?_
  rintro e w1 ⟨r1, rfl, hr1, _, hrd1, hg1⟩
  have h1 := hr1 (by omega)
  obtain ⟨kind, hk⟩ : ∃ k, k = 1 + r1 := ⟨_, rfl⟩
  have hw : IntKind.i64.wrap (1 + r1) = kind := by rw [← hk]; exact IntWalk.i64_in _ (by omega)
  have hk1 : 1 ≤ kind := by omega
  have hk5 : kind ≤ 5 := by omega
  clear hk hr1 h1
  have ho0 := OwnL.empty w1 hg1.size
  have hrd0 := hrd1.new (World.grownBy_alloc w1 (.cells #[] 27) none)
  have hg0 := gb_alloc hg1 (.cells #[] 27)
  obtain ⟨m, hm⟩ : ∃ m, m = kindNeeds kind := ⟨_, rfl⟩
  have hmb := kindNeeds_le kind
  rw [← hm] at hmb
  have Hm := Lib.hid hm
  clear hm
  go_wp2_with fail
  go_loopg [5, 6] (m.toNat + 1) (fun mm o i wr => ∃ (k : Nat) (rows : List (List Int)) (q : Int), k ≤ m.toNat ∧ mm = m.toNat + 1 - k ∧ i = .int .i64 k ∧ OwnL wr w.heap.size o rows ∧ rows.length = k ∧ p ≤ q ∧ q ≤ p + 1 + k ∧ Rdr B0 wr rb q ∧ w.grownBy wr (some rb))
  case atStart => exact ⟨0, [], p + 1, Nat.zero_le _, rfl, rfl, ho0, rfl, by omega, by omega, hrd0, hg0⟩
  case round =>
    clear ho0 hrd0 hg0 hw
    obtain ⟨k, rows, q, hk, rfl, rfl, ho, hl, hq1, hq2, hrd, hg⟩ := hrel
    have hl20 : rows.length ≤ 20 := by omega
    have Hl := Lib.hid hl
    clear hl
    obtain ⟨Ao, no, co, rfl⟩ := ho.rl.val
    by_cases hlt : (k : Int) < m
    · have R1 : RI (wr.alloc (.cells #[.int .i64 1, .int .i64 2] 3)) (.slice (some ⟨wr.heap.size, 0, none⟩) 2 2) [1, 2] := RI.lit wr [1, 2]
      have R2 : RI ((wr.alloc (.cells #[.int .i64 1, .int .i64 2] 3)).alloc (.cells #[.int .i64 3, .int .i64 1] 3)) (.slice (some ⟨wr.heap.size + 1, 0, none⟩) 2 2) [3, 1] := by
        have := RI.lit (wr.alloc (.cells #[.int .i64 1, .int .i64 2] 3)) [3, 1]
        rw [World.size_alloc] at this
        exact this
      have R3 : RI (((wr.alloc (.cells #[.int .i64 1, .int .i64 2] 3)).alloc (.cells #[.int .i64 3, .int .i64 1] 3)).alloc (.cells #[.int .i64 2, .int .i64 2] 3)) (.slice (some ⟨wr.heap.size + 1 + 1, 0, none⟩) 2 2) [2, 2] := by
        have := RI.lit ((wr.alloc (.cells #[.int .i64 1, .int .i64 2] 3)).alloc (.cells #[.int .i64 3, .int .i64 1] 3)) [2, 2]
        rw [World.size_alloc, World.size_alloc] at this
        exact this
      have hgX : wr.grownBy ((((wr.alloc (.cells #[.int .i64 1, .int .i64 2] 3)).alloc (.cells #[.int .i64 3, .int .i64 1] 3)).alloc (.cells #[.int .i64 2, .int .i64 2] 3)).alloc (.cells #[.slice (some ⟨wr.heap.size, 0, none⟩) 2 2, .slice (some ⟨wr.heap.size + 1, 0, none⟩) 2 2, .slice (some ⟨wr.heap.size + 1 + 1, 0, none⟩) 2 2] 27)) none := gb_alloc (gb_alloc (gb_alloc (World.grownBy_alloc wr _ none) _) _) _
      have BX : Blk ((((wr.alloc (.cells #[.int .i64 1, .int .i64 2] 3)).alloc (.cells #[.int .i64 3, .int .i64 1] 3)).alloc (.cells #[.int .i64 2, .int .i64 2] 3)).alloc (.cells #[.slice (some ⟨wr.heap.size, 0, none⟩) 2 2, .slice (some ⟨wr.heap.size + 1, 0, none⟩) 2 2, .slice (some ⟨wr.heap.size + 1 + 1, 0, none⟩) 2 2] 27)) (wr.heap.size + 1 + 1 + 1) 27 #[.slice (some ⟨wr.heap.size, 0, none⟩) 2 2, .slice (some ⟨wr.heap.size + 1, 0, none⟩) 2 2, .slice (some ⟨wr.heap.size + 1 + 1, 0, none⟩) 2 2] := by
        have := Blk.new (((wr.alloc (.cells #[.int .i64 1, .int .i64 2] 3)).alloc (.cells #[.int .i64 3, .int .i64 1] 3)).alloc (.cells #[.int .i64 2, .int .i64 2] 3)) 27 #[.slice (some ⟨wr.heap.size, 0, none⟩) 2 2, .slice (some ⟨wr.heap.size + 1, 0, none⟩) 2 2, .slice (some ⟨wr.heap.size + 1 + 1, 0, none⟩) 2 2]
        rw [World.size_alloc, World.size_alloc, World.size_alloc] at this
        exact this
      have T1 := ((R1.alloc (.cells #[.int .i64 3, .int .i64 1] 3)).alloc (.cells #[.int .i64 2, .int .i64 2] 3)).alloc (.cells #[.slice (some ⟨wr.heap.size, 0, none⟩) 2 2, .slice (some ⟨wr.heap.size + 1, 0, none⟩) 2 2, .slice (some ⟨wr.heap.size + 1 + 1, 0, none⟩) 2 2] 27)
      have T2 := (R2.alloc (.cells #[.int .i64 2, .int .i64 2] 3)).alloc (.cells #[.slice (some ⟨wr.heap.size, 0, none⟩) 2 2, .slice (some ⟨wr.heap.size + 1, 0, none⟩) 2 2, .slice (some ⟨wr.heap.size + 1 + 1, 0, none⟩) 2 2] 27)
      have T3 := R3.alloc (.cells #[.slice (some ⟨wr.heap.size, 0, none⟩) 2 2, .slice (some ⟨wr.heap.size + 1, 0, none⟩) 2 2, .slice (some ⟨wr.heap.size + 1 + 1, 0, none⟩) 2 2] 27)
      clear R1 R2 R3
      have hlr := hrd.lt
      go_wp2_with fail
      refine (specKindNeeds_any _ _).mono ?_
      rw [← Hm.out]
      rintro e w2 ⟨rfl, rfl⟩
      go_wp2_with fail
      refine (pick_any B0 rb q _ _ (hrd.new hgX) (by omega) (by omega)).mono ?_
      rintro e w3 ⟨r3, rfl, hr3, _, hrd3, hg3⟩
      have h3 := hr3 (by omega)
      have B3 := BX.grown hg3 (by
        intro e
        cases e
        omega)
      have hnt : NotE _ 3 (some rb) := (hrd.new hgX).notE (by decide)
      obtain ⟨b, l, hcell, hri⟩ : ∃ (b : Nat) (l : List Int), w3.cell? ⟨wr.heap.size + 1 + 1 + 1, r3.toNat, none⟩ = some (.slice (some ⟨b, 0, none⟩) 2 2) ∧ RI w3 (.slice (some ⟨b, 0, none⟩) 2 2) l := by
        rcases (show r3 = 0 ∨ r3 = 1 ∨ r3 = 2 by omega) with rfl | rfl | rfl
        · exact ⟨_, _, B3.cell 0, T1.grown hg3 hnt⟩
        · exact ⟨_, _, B3.cell 1, T2.grown hg3 hnt⟩
        · exact ⟨_, _, B3.cell 2, T3.grown hg3 hnt⟩
      have hg03 : wr.grownBy w3 (some rb) := gb_new (gb_refl wr (some rb)) hgX (fun _ e => by cases e) |>.trans hg3
      have ho3 := ho.grown hg03 (hrd.notE (by decide)) (hrd.notE (by decide))
      have hsz := (gb_trans hg hg03).size
      clear T1 T2 T3 BX B3 hgX hg3 hr3 ho hrd
      go_wp2_with (at_builtin; go_must (refine wp_push_list (.tmp 17) (.tmp 26) rfl rfl ho3 hri (by omega) hsz rfl rfl ?_))
      intro v' w4 hown4 hg4
      have hrd4 : Rdr B0 w4 rb (q + 1) := by
        obtain ⟨xs, hx, _⟩ := ho3
        exact hrd3.own hx (by decide) hB hg4
      have hg5 : w.grownBy w4 (some rb) := ho3.gb (gb_trans hg hg03) hg4 (Nat.le_refl _)
      go_wp2_with fail
      go_roundg (m.toNat + 1 - (k + 1))
      case measure => omega
      case rel => exact ⟨k + 1, rows ++ [l], q + 1, by omega, rfl, by go_num, hown4, by simp [Hl.out], by omega, by omega, hrd4, hg5⟩
    · have hro := ho.rl
      go_wp2_with fail
      refine (specKindNeeds_any _ _).mono ?_
      rw [← Hm.out]
      rintro e w2 ⟨rfl, rfl⟩
      go_wp2_with fail
      go_ret2
      exact ⟨kind, _, rows, rfl, hk1, hk5, hro, q, by omega, by omega, hrd, hg⟩
end Go.Proofs.Ytjlnhijabdkagaa
