/- Walks: the laws' marks in rows of rows, in entries, where only the zone counts: markIntSS, markEntryS. -/
import Derived.Test.YtihobnheficpjaaGreatDoorM28
import Derived.Test.YtihobnheficpjaaGreatDoorE7MarkN
namespace Go.Proofs.YtihobnheficpjaaGreatDoor
open Go.RowKit

/-- A slice of rows of the call's own, all in blocks from lo to hi; what they hold is left open. -/
def WL (w : World) (lo hi : Nat) (v : Value) (n : Nat) : Prop :=
  n ≤ 1048576 ∧ ∃ A c, v = .slice A n c ∧ n ≤ c ∧ (n = 0 ∨ ∃ g cur, A = some ⟨g, 0, none⟩ ∧ lo ≤ g ∧ g < hi ∧ Blk w g 25 cur ∧ ∀ i, i < n → ∃ f nf, cur[i]? = some f ∧ WI w lo hi f nf)
theorem WL.form {w : World} {lo hi n : Nat} {v : Value} (h : WL w lo hi v n) : ∃ A c, v = .slice A n c ∧ n ≤ c ∧ n ≤ 1048576 := by
  obtain ⟨h1, A, c, h2, h3, _⟩ := h
  exact ⟨A, c, h2, h3, h1⟩
theorem WL.mi {w w' : World} {lo hi lo' hi' n : Nat} {v : Value} (h : WL w lo hi v n) (k : MI lo' hi' w w') : WL w' lo hi v n := by
  obtain ⟨h1, A, c, h2, h3, h4⟩ := h
  refine ⟨h1, A, c, h2, h3, ?_⟩
  rcases h4 with h4 | ⟨g, cur, h5, h6, h7, h8, h9⟩
  · exact .inl h4
  · refine .inr ⟨g, cur, h5, h6, h7, k.other g _ cur (by decide) h8, fun i hi => ?_⟩
    obtain ⟨f, nf, k0, k1⟩ := h9 i hi
    exact ⟨f, nf, k0, k1.mi k⟩
theorem WL.far {w : World} {lo hi n g : Nat} {f : Value} {E : TypeId} {cs : Array Value} (h : WL w lo hi f n) (hb : Blk w g E cs) (hE : 3 ≠ E) (hE2 : 25 ≠ E) (j : Nat) (u : Value) : WL (w.setCell ⟨g, j, none⟩ u) lo hi f n := by
  obtain ⟨h1, A, c, h2, h3, h4⟩ := h
  refine ⟨h1, A, c, h2, h3, ?_⟩
  rcases h4 with h4 | ⟨g', cur, h5, h6, h7, h8, h9⟩
  · exact .inl h4
  · refine .inr ⟨g', cur, h5, h6, h7, h8.far (p := ⟨g, j, none⟩) (h8.ne_ hb hE2) u, fun i hi => ?_⟩
    obtain ⟨f, nf, k0, k1⟩ := h9 i hi
    exact ⟨f, nf, k0, k1.far hb hE j u⟩
theorem WI.zone {w w' : World} {lo hi lo' hi' n : Nat} {v : Value} (h : WI w lo hi v n) (k : Zn lo' hi' w w') (hb : hi' ≤ lo) : WI w' lo hi v n := by
  obtain ⟨h1, A, c, h2, h3, h4⟩ := h
  refine ⟨h1, A, c, h2, h3, ?_⟩
  rcases h4 with h4 | ⟨g, cur, h5, h6, h7, h8, h9⟩
  · exact .inl h4
  · exact .inr ⟨g, cur, h5, h6, h7, h8.zone k (.inr (by omega)), h9⟩
theorem WL.zone {w w' : World} {lo hi lo' hi' n : Nat} {v : Value} (h : WL w lo hi v n) (k : Zn lo' hi' w w') (hb : hi' ≤ lo) : WL w' lo hi v n := by
  obtain ⟨h1, A, c, h2, h3, h4⟩ := h
  refine ⟨h1, A, c, h2, h3, ?_⟩
  rcases h4 with h4 | ⟨g, cur, h5, h6, h7, h8, h9⟩
  · exact .inl h4
  · refine .inr ⟨g, cur, h5, h6, h7, h8.zone k (.inr (by omega)), fun i hi => ?_⟩
    obtain ⟨f, nf, k0, k1⟩ := h9 i hi
    exact ⟨f, nf, k0, k1.zone k hb⟩
theorem WL.at_ {w : World} {lo hi n c i : Nat} {A : Option Addr} (h : WL w lo hi (.slice A n c) n) (hi' : i < n) : ∃ g f nf, A = some ⟨g, 0, none⟩ ∧ w.cell? ⟨g, i, none⟩ = some f ∧ WI w lo hi f nf := by
  obtain ⟨h1, A', c', h2, h3, h4⟩ := h
  injection h2 with e1 _ e2
  subst e1 e2
  rcases h4 with h4 | ⟨g, cur, h5, h6, h7, h8, h9⟩
  · omega
  · obtain ⟨f, nf, k0, k1⟩ := h9 i hi'
    exact ⟨g, f, nf, h5, (h8.cell _).trans k0, k1⟩
theorem LX.wl {w : World} {base lo hi : Nat} {v : Value} {ll : List (List Int)} {xs : List Value} (h : LX w base v ll xs) (h1 : lo ≤ base) (h2 : w.heap.size ≤ hi) (hl : fitsL ll) : WL w lo hi v ll.length := by
  refine ⟨hl.1, ?_⟩
  have hlt := h.lt
  rcases h.1.2 with ⟨rfl, h0⟩ | ⟨g, cap, cur, rfl, hb, hg, hn, _, hcs, ht⟩
  · rw [h0]
    exact ⟨none, 0, rfl, Nat.le_refl _, .inl rfl⟩
  · have := hlt g rfl
    refine ⟨_, cap, rfl, hn, .inr ⟨g, cur, rfl, by omega, by omega, hg, fun i hi => ?_⟩⟩
    obtain ⟨u, k1, k2⟩ := h.2 i _ (List.getElem?_eq_getElem hi)
    refine ⟨u, _, ?_, k2.wi h1 h2 (hl.2 _ (List.getElem_mem hi))⟩
    rw [← ht, List.getElem?_take] at k1
    split at k1
    · simpa using k1
    · cases k1
def MarkLPost (lo hi n k : Nat) (w : World) (e : Ending) (w' : World) : Prop := (∃ y : Nat, e = .returned (.int .i64 y) ∧ y ≤ k + 1048576 * n) ∧ MI lo hi w w'
set_option maxHeartbeats 400000 in
theorem markIntSS_any (lo hi : Nat) (v : Value) (n k : Nat) (w : World) (h : WL w lo hi v n) (hk : k ≤ 4000000000000000000) (kz : Int) (hkz : kz = (k : Nat) := by omega) :
    Calls Tryz.prog 81 #[v, .int .i64 kz] w (MarkLPost lo hi n k w) := by
  subst hkz
  obtain ⟨A, c, rfl, hnc, hn⟩ := h.form
  go_enter Tryz.func81, Tryz.ntmps81
  go_wp2_with fail
  go_loopw [1, 5] (fun s i wr => ∃ j y : Nat, j ≤ n ∧ i = .int .i64 j ∧ s = .int .i64 y ∧ y ≤ k + 1048576 * j ∧ WL wr lo hi (.slice A n c) n ∧ MI lo hi w wr) (fun _ i _ => n - (intOf i).toNat)
  case atStart => exact ⟨0, k, Nat.zero_le _, rfl, rfl, by omega, h, MI.refl _ _ _⟩
  case round =>
    clear h
    obtain ⟨j, y, hj, rfl, rfl, hy, h, hz⟩ := hrel
    by_cases hlt : j < n
    · obtain ⟨g, f, nf, rfl, c0, hf⟩ := h.at_ hlt
      obtain ⟨Af, cf, rfl, _, hnf⟩ := hf.form
      go_wp2_with fail
      refine (markIntS_any lo hi _ nf y _ (by exact hf) (by omega) _).mono ?_
      rintro e w1 ⟨rfl, hM1, -, -⟩
      have hs1 := h.mi hM1
      have hz1 := hz.trans hM1
      clear h hz hM1 hf
      go_wp2_with fail
      go_roundw
      case rel => exact ⟨j + 1, y + nf, by omega, by go_num, by go_num, by omega, hs1, hz1⟩
      case measure => simp [intOf]; omega
    · obtain rfl : j = n := by omega
      go_wp2_with fail
      go_ret
      exact ⟨⟨y, rfl, hy⟩, hz⟩
end Go.Proofs.YtihobnheficpjaaGreatDoor
