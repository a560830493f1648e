/- Walks: the laws' marks in plans: markNodeS. -/
import Derived.Test.YtihobnheficpjaaGreatDoorM26
namespace Go.Proofs.YtihobnheficpjaaGreatDoor
open Go.RowKit

/-- A slice of nodes of the call's own, all in blocks from lo to hi; what they hold is left open. -/
def WNd (w : World) (lo hi : Nat) (v : Value) (n : Nat) : Prop :=
  n ≤ 1048576 ∧ ∃ A c, v = .slice A n c ∧ n ≤ c ∧ (n = 0 ∨ ∃ g cur, A = some ⟨g, 0, none⟩ ∧ lo ≤ g ∧ g < hi ∧ Blk w g 94 cur ∧
    ∀ i, i < n → ∃ u f nf r nr, cur[i * 3]? = some u ∧ cur[i * 3 + 1]? = some f ∧ cur[i * 3 + 2]? = some r ∧ WI w lo hi f nf ∧ WI w lo hi r nr)
theorem WNd.form {w : World} {lo hi n : Nat} {v : Value} (h : WNd w lo hi v n) : ∃ A c, v = .slice A n c ∧ n ≤ c ∧ n ≤ 1048576 := by
  obtain ⟨h1, A, c, h2, h3, _⟩ := h
  exact ⟨A, c, h2, h3, h1⟩
theorem WNd.mi {w w' : World} {lo hi lo' hi' n : Nat} {v : Value} (h : WNd w lo hi v n) (k : MI lo' hi' w w') : WNd w' lo hi v n := by
  obtain ⟨h1, A, c, h2, h3, h4⟩ := h
  refine ⟨h1, A, c, h2, h3, ?_⟩
  rcases h4 with h4 | ⟨g, cur, h5, h6, h7, h8, h9⟩
  · exact .inl h4
  · refine .inr ⟨g, cur, h5, h6, h7, k.other g _ cur (by decide) h8, fun i hi => ?_⟩
    obtain ⟨u, f, nf, r, nr, k0, k1, k2, k3, k4⟩ := h9 i hi
    exact ⟨u, f, nf, r, nr, k0, k1, k2, k3.mi k, k4.mi k⟩
theorem WI.far {w : World} {lo hi n g : Nat} {f : Value} {E : TypeId} {cs : Array Value} (h : WI w lo hi f n) (hb : Blk w g E cs) (hE : 3 ≠ E) (j : Nat) (u : Value) : WI (w.setCell ⟨g, j, none⟩ u) lo hi f n := by
  obtain ⟨h1, A, c, h2, h3, h4⟩ := h
  refine ⟨h1, A, c, h2, h3, ?_⟩
  rcases h4 with h4 | ⟨g', cur, h5, h6, h7, h8, h9⟩
  · exact .inl h4
  · exact .inr ⟨g', cur, h5, h6, h7, h8.far (p := ⟨g, j, none⟩) (h8.ne_ hb hE) u, h9⟩
theorem WNd.at_ {w : World} {lo hi n c i : Nat} {A : Option Addr} (h : WNd w lo hi (.slice A n c) n) (hi' : i < n) : ∃ g u f nf r nr, A = some ⟨g, 0, none⟩ ∧ lo ≤ g ∧ g < hi ∧ w.cell? ⟨g, i * 3, none⟩ = some u ∧ w.cell? ⟨g, i * 3 + 1, none⟩ = some f ∧ w.cell? ⟨g, i * 3 + 2, none⟩ = some r ∧
    w.frozen? ⟨g, i * 3, none⟩ = false ∧ ∀ k : Value, WNd (w.setCell ⟨g, i * 3, none⟩ k) lo hi (.slice A n c) n ∧ WI (w.setCell ⟨g, i * 3, none⟩ k) lo hi f nf ∧ WI (w.setCell ⟨g, i * 3, none⟩ k) lo hi r nr ∧ ∃ cur, Blk (w.setCell ⟨g, i * 3, none⟩ k) g 94 cur ∧ cur[i * 3 + 2]? = some r := by
  obtain ⟨h1, A', c', h2, h3, h4⟩ := h
  injection h2 with e1 _ e2
  subst e1 e2
  rcases h4 with h4 | ⟨g, cur, h5, h6, h7, h8, h9⟩
  · omega
  · obtain ⟨u, f, nf, r, nr, k0, k1, k2, k3, k4⟩ := h9 i hi'
    refine ⟨g, u, f, nf, r, nr, h5, h6, h7, (h8.cell _).trans k0, (h8.cell _).trans k1, (h8.cell _).trans k2, h8.frozen _, fun k => ⟨?_, k3.far h8 (by decide) _ _, k4.far h8 (by decide) _ _, _, h8.set_ (i * 3) k, by rw [Array.getElem?_setIfInBounds_ne (by omega)]; exact k2⟩⟩
    refine ⟨h1, A, c, rfl, h3, .inr ⟨g, _, h5, h6, h7, h8.set_ (i * 3) k, fun i2 hi2 => ?_⟩⟩
    obtain ⟨u2, f2, nf2, r2, nr2, q0, q1, q2, q3, q4⟩ := h9 i2 hi2
    have e1 : (cur.setIfInBounds (i * 3) k)[i2 * 3 + 1]? = some f2 := by rw [Array.getElem?_setIfInBounds_ne (by omega)]; exact q1
    have e2 : (cur.setIfInBounds (i * 3) k)[i2 * 3 + 2]? = some r2 := by rw [Array.getElem?_setIfInBounds_ne (by omega)]; exact q2
    have e0 : ∃ u3, (cur.setIfInBounds (i * 3) k)[i2 * 3]? = some u3 := ⟨_, Array.getElem?_eq_getElem (by rw [Array.size_setIfInBounds]; exact (Array.getElem?_eq_some_iff.1 q0).1)⟩
    obtain ⟨u3, e0⟩ := e0
    exact ⟨u3, f2, nf2, r2, nr2, e0, e1, e2, q3.far h8 (by decide) _ _, q4.far h8 (by decide) _ _⟩
theorem DN.wnd {w : World} {base lo hi : Nat} {v : Value} {plan : List Node} (h : DN w base v plan) (h1 : lo ≤ base) (h2 : w.heap.size ≤ hi) (hl : fitsN plan) : WNd w lo hi v plan.length := by
  obtain ⟨xs, h3, h4⟩ := h
  refine ⟨hl.1, ?_⟩
  have hlt := h3.lt
  rcases h3.2 with ⟨rfl, h0⟩ | ⟨g, cap, cur, rfl, hb, hg, hn, _, hcs, ht⟩
  · rw [h0]
    exact ⟨none, 0, rfl, Nat.le_refl _, .inl rfl⟩
  · have := hlt g rfl
    refine ⟨_, cap, rfl, hn, .inr ⟨g, cur, rfl, by omega, by omega, hg, fun i hi => ?_⟩⟩
    obtain ⟨f, r, k1, k2, k3, k4, k5⟩ := h4 i _ (List.getElem?_eq_getElem hi)
    have hm := hl.2 _ (List.getElem_mem hi)
    have get : ∀ {j : Nat} {u : Value}, xs[j]? = some u → cur[j]? = some u := by
      intro j u hu
      rw [← ht, List.getElem?_take] at hu
      split at hu
      · simpa using hu
      · cases hu
    exact ⟨_, f, _, r, _, get k1, get k2, get k3, k4.wi h1 h2 hm.1, k5.wi h1 h2 hm.2⟩

def MarkNPost (lo hi : Nat) (w : World) (e : Ending) (w' : World) : Prop := (∃ k : Nat, e = .returned (.int .i64 k)) ∧ Zn lo hi w w'
set_option maxHeartbeats 400000 in
theorem markNodeS_any (lo hi : Nat) (v : Value) (n k : Nat) (w : World) (h : WNd w lo hi v n) (hk : k ≤ 1000000) (kz : Int) (hkz : kz = (k : Nat) := by omega) :
    Calls Tryz.prog 33 #[v, .int .i64 kz] w (MarkNPost lo hi w) := by
  subst hkz
  obtain ⟨A, c, rfl, hnc, hn⟩ := h.form
  go_enter Tryz.func33, Tryz.ntmps33
  go_wp2_with fail
  go_loopw [1, 5] (fun s i wr => ∃ j y : Nat, j ≤ n ∧ i = .int .i64 j ∧ s = .int .i64 y ∧ y ≤ k + 2097153 * j ∧ WNd wr lo hi (.slice A n c) n ∧ Zn lo hi w wr) (fun _ i _ => n - (intOf i).toNat)
  case atStart => exact ⟨0, k, Nat.zero_le _, rfl, rfl, by omega, h, Zn.refl _ _ _⟩
  case round =>
    clear h
    obtain ⟨j, y, hj, rfl, rfl, hy, h, hz⟩ := hrel
    by_cases hlt : j < n
    · obtain ⟨g, u, f, nf, r, nr, rfl, h1, h2, c0, c1, c2, f0, hset⟩ := h.at_ hlt
      obtain ⟨hs, hf', hr', cur, hb, hcr⟩ := hset (.int .i64 y)
      have hz1 : Zn lo hi wr (wr.setCell ⟨g, j * 3, none⟩ (.int .i64 y)) := Zn.of_gb (gb_set (p := ⟨g, j * 3, none⟩) (gb_refl wr (some g)) (.inr rfl) _) (fun g' e => by cases e; exact ⟨h1, h2⟩)
      have hz2 := hz.trans hz1
      obtain ⟨Af, cf, rfl, _, hnf⟩ := hf'.form
      obtain ⟨Ar, cr, rfl, _, hnr⟩ := hr'.form
      clear h hset hz hz1
      go_wp2_with fail
      refine (markIntS_any lo hi _ nf (y + 1) _ (by exact hf') (by omega) _).mono ?_
      rintro e w1 ⟨rfl, hM1, -, -⟩
      have hs1 := hs.mi hM1
      have hr1 := hr'.mi hM1
      have hz3 := hz2.trans hM1.z
      have d2 : w1.cell? ⟨g, j * 3 + 2, none⟩ = some (.slice Ar nr cr) := ((hM1.other g _ cur (by decide) hb).cell _).trans hcr
      clear hb hcr hs hr' hM1 hz2
      go_wp2_with fail
      refine (markIntS_any lo hi _ nr (y + 1 + nf) _ (by exact hr1) (by omega) _).mono ?_
      rintro e w2 ⟨rfl, hM2, -, -⟩
      have hs2 := hs1.mi hM2
      have hz4 := hz3.trans hM2.z
      go_wp2_with fail
      go_roundw
      case rel => exact ⟨j + 1, y + 1 + nf + nr, by omega, by go_num, by go_num, by omega, hs2, hz4⟩
      case measure => simp [intOf]; omega
    · obtain rfl : j = n := by omega
      go_wp2_with fail
      go_ret
      exact ⟨⟨y, rfl⟩, hz⟩
end Go.Proofs.YtihobnheficpjaaGreatDoor
