/- Walks: the laws' marks in rows of rows, in entries, where only the zone counts: markIntSS, markEntryS. -/
import Derived.Test.YtjlnhijabdkagaaE9Ents
import Derived.Test.YtjlnhijabdkagaaE7MarkN
namespace Go.Proofs.Ytjlnhijabdkagaa
open Go.RowKit

/-- A slice of rows of the call's own, all in blocks from lo to hi; what they hold is left open. -/
def WL (w : World) (lo hi : Nat) (v : Value) (n : Nat) : Prop :=
  n ≤ 1048576 ∧ ∃ A c, v = .slice A n c ∧ n ≤ c ∧ (n = 0 ∨ ∃ g cur, A = some ⟨g, 0, none⟩ ∧ lo ≤ g ∧ g < hi ∧ Blk w g 27 cur ∧ ∀ i, i < n → ∃ f nf, cur[i]? = some f ∧ WI w lo hi f nf)
theorem WL.form {w : World} {lo hi n : Nat} {v : Value} (h : WL w lo hi v n) : ∃ A c, v = .slice A n c ∧ n ≤ c ∧ n ≤ 1048576 := by
  obtain ⟨h1, A, c, h2, h3, _⟩ := h
  exact ⟨A, c, h2, h3, h1⟩
theorem WL.mi {w w' : World} {lo hi lo' hi' n : Nat} {v : Value} (h : WL w lo hi v n) (k : MI lo' hi' w w') : WL w' lo hi v n := by
  obtain ⟨h1, A, c, h2, h3, h4⟩ := h
  refine ⟨h1, A, c, h2, h3, ?_⟩
  rcases h4 with h4 | ⟨g, cur, h5, h6, h7, h8, h9⟩
  · exact .inl h4
  · refine .inr ⟨g, cur, h5, h6, h7, k.other g _ cur (by decide) h8, fun i hi => ?_⟩
    obtain ⟨f, nf, k0, k1⟩ := h9 i hi
    exact ⟨f, nf, k0, k1.mi k⟩
theorem WL.far {w : World} {lo hi n g : Nat} {f : Value} {E : TypeId} {cs : Array Value} (h : WL w lo hi f n) (hb : Blk w g E cs) (hE : 3 ≠ E) (hE2 : 27 ≠ E) (j : Nat) (u : Value) : WL (w.setCell ⟨g, j, none⟩ u) lo hi f n := by
  obtain ⟨h1, A, c, h2, h3, h4⟩ := h
  refine ⟨h1, A, c, h2, h3, ?_⟩
  rcases h4 with h4 | ⟨g', cur, h5, h6, h7, h8, h9⟩
  · exact .inl h4
  · refine .inr ⟨g', cur, h5, h6, h7, h8.far (p := ⟨g, j, none⟩) (h8.ne_ hb hE2) u, fun i hi => ?_⟩
    obtain ⟨f, nf, k0, k1⟩ := h9 i hi
    exact ⟨f, nf, k0, k1.far hb hE j u⟩
theorem WI.zone {w w' : World} {lo hi lo' hi' n : Nat} {v : Value} (h : WI w lo hi v n) (k : Zn lo' hi' w w') (hb : hi' ≤ lo) : WI w' lo hi v n := by
  obtain ⟨h1, A, c, h2, h3, h4⟩ := h
  refine ⟨h1, A, c, h2, h3, ?_⟩
  rcases h4 with h4 | ⟨g, cur, h5, h6, h7, h8, h9⟩
  · exact .inl h4
  · exact .inr ⟨g, cur, h5, h6, h7, h8.zone k (.inr (by omega)), h9⟩
theorem WL.zone {w w' : World} {lo hi lo' hi' n : Nat} {v : Value} (h : WL w lo hi v n) (k : Zn lo' hi' w w') (hb : hi' ≤ lo) : WL w' lo hi v n := by
  obtain ⟨h1, A, c, h2, h3, h4⟩ := h
  refine ⟨h1, A, c, h2, h3, ?_⟩
  rcases h4 with h4 | ⟨g, cur, h5, h6, h7, h8, h9⟩
  · exact .inl h4
  · refine .inr ⟨g, cur, h5, h6, h7, h8.zone k (.inr (by omega)), fun i hi => ?_⟩
    obtain ⟨f, nf, k0, k1⟩ := h9 i hi
    exact ⟨f, nf, k0, k1.zone k hb⟩
theorem WL.at_ {w : World} {lo hi n c i : Nat} {A : Option Addr} (h : WL w lo hi (.slice A n c) n) (hi' : i < n) : ∃ g f nf, A = some ⟨g, 0, none⟩ ∧ w.cell? ⟨g, i, none⟩ = some f ∧ WI w lo hi f nf := by
  obtain ⟨h1, A', c', h2, h3, h4⟩ := h
  injection h2 with e1 _ e2
  subst e1 e2
  rcases h4 with h4 | ⟨g, cur, h5, h6, h7, h8, h9⟩
  · omega
  · obtain ⟨f, nf, k0, k1⟩ := h9 i hi'
    exact ⟨g, f, nf, h5, (h8.cell _).trans k0, k1⟩
theorem LX.wl {w : World} {base lo hi : Nat} {v : Value} {ll : List (List Int)} {xs : List Value} (h : LX w base v ll xs) (h1 : lo ≤ base) (h2 : w.heap.size ≤ hi) (hl : fitsL ll) : WL w lo hi v ll.length := by
  refine ⟨hl.1, ?_⟩
  have hlt := h.lt
  rcases h.1.2 with ⟨rfl, h0⟩ | ⟨g, cap, cur, rfl, hb, hg, hn, _, hcs, ht⟩
  · rw [h0]
    exact ⟨none, 0, rfl, Nat.le_refl _, .inl rfl⟩
  · have := hlt g rfl
    refine ⟨_, cap, rfl, hn, .inr ⟨g, cur, rfl, by omega, by omega, hg, fun i hi => ?_⟩⟩
    obtain ⟨u, k1, k2⟩ := h.2 i _ (List.getElem?_eq_getElem hi)
    refine ⟨u, _, ?_, k2.wi h1 h2 (hl.2 _ (List.getElem_mem hi))⟩
    rw [← ht, List.getElem?_take] at k1
    split at k1
    · simpa using k1
    · cases k1
def MarkLPost (lo hi n k : Nat) (w : World) (e : Ending) (w' : World) : Prop := (∃ y : Nat, e = .returned (.int .i64 y) ∧ y ≤ k + 1048576 * n) ∧ MI lo hi w w'
set_option maxHeartbeats 400000 in
theorem markIntSS_any (lo hi : Nat) (v : Value) (n k : Nat) (w : World) (h : WL w lo hi v n) (hk : k ≤ 4000000000000000000) (kz : Int) (hkz : kz = (k : Nat) := by omega) :
    Calls Try.prog 66 #[v, .int .i64 kz] w (MarkLPost lo hi n k w) := by
  subst hkz
  obtain ⟨A, c, rfl, hnc, hn⟩ := h.form
  go_enter Try.func66, Try.ntmps66
  go_wp2_with fail
  go_loopw [1, 5] (fun s i wr => ∃ j y : Nat, j ≤ n ∧ i = .int .i64 j ∧ s = .int .i64 y ∧ y ≤ k + 1048576 * j ∧ WL wr lo hi (.slice A n c) n ∧ MI lo hi w wr) (fun _ i _ => n - (intOf i).toNat)
  case atStart => exact ⟨0, k, Nat.zero_le _, rfl, rfl, by omega, h, MI.refl _ _ _⟩
  case round =>
    clear h
    obtain ⟨j, y, hj, rfl, rfl, hy, h, hz⟩ := hrel
    by_cases hlt : j < n
    · obtain ⟨g, f, nf, rfl, c0, hf⟩ := h.at_ hlt
      obtain ⟨Af, cf, rfl, _, hnf⟩ := hf.form
      go_wp2_with fail
      refine (markIntS_any lo hi _ nf y _ (by exact hf) (by omega) _).mono ?_
      rintro e w1 ⟨rfl, hM1, -, -⟩
      have hs1 := h.mi hM1
      have hz1 := hz.trans hM1
      clear h hz hM1 hf
      go_wp2_with fail
      go_roundw
      case rel => exact ⟨j + 1, y + nf, by omega, by go_num, by go_num, by omega, hs1, hz1⟩
      case measure => simp [intOf]; omega
    · obtain rfl : j = n := by omega
      go_wp2_with fail
      go_ret
      exact ⟨⟨y, rfl, hy⟩, hz⟩
/-- A slice of entries of the call's own, all in blocks from lo to hi; what they hold is left open. -/
def WEn (w : World) (lo hi : Nat) (v : Value) (n : Nat) : Prop :=
  n ≤ 1048576 ∧ ∃ A c, v = .slice A n c ∧ n ≤ c ∧ (n = 0 ∨ ∃ g cur, A = some ⟨g, 0, none⟩ ∧ lo ≤ g ∧ g < hi ∧ Blk w g 62 cur ∧
    ∀ i, i < n → ∃ u f nf r nr, cur[i * 3]? = some u ∧ cur[i * 3 + 1]? = some f ∧ cur[i * 3 + 2]? = some r ∧ WL w lo hi f nf ∧ WI w lo hi r nr)
theorem WEn.form {w : World} {lo hi n : Nat} {v : Value} (h : WEn w lo hi v n) : ∃ A c, v = .slice A n c ∧ n ≤ c ∧ n ≤ 1048576 := by
  obtain ⟨h1, A, c, h2, h3, _⟩ := h
  exact ⟨A, c, h2, h3, h1⟩
theorem WEn.mi {w w' : World} {lo hi lo' hi' n : Nat} {v : Value} (h : WEn w lo hi v n) (k : MI lo' hi' w w') : WEn w' lo hi v n := by
  obtain ⟨h1, A, c, h2, h3, h4⟩ := h
  refine ⟨h1, A, c, h2, h3, ?_⟩
  rcases h4 with h4 | ⟨g, cur, h5, h6, h7, h8, h9⟩
  · exact .inl h4
  · refine .inr ⟨g, cur, h5, h6, h7, k.other g _ cur (by decide) h8, fun i hi => ?_⟩
    obtain ⟨u, f, nf, r, nr, k0, k1, k2, k3, k4⟩ := h9 i hi
    exact ⟨u, f, nf, r, nr, k0, k1, k2, k3.mi k, k4.mi k⟩
theorem WEn.at_ {w : World} {lo hi n c i : Nat} {A : Option Addr} (h : WEn w lo hi (.slice A n c) n) (hi' : i < n) : ∃ g u f nf r nr, A = some ⟨g, 0, none⟩ ∧ lo ≤ g ∧ g < hi ∧ w.cell? ⟨g, i * 3, none⟩ = some u ∧ w.cell? ⟨g, i * 3 + 1, none⟩ = some f ∧ w.cell? ⟨g, i * 3 + 2, none⟩ = some r ∧
    w.frozen? ⟨g, i * 3, none⟩ = false ∧ ∀ k : Value, WEn (w.setCell ⟨g, i * 3, none⟩ k) lo hi (.slice A n c) n ∧ WL (w.setCell ⟨g, i * 3, none⟩ k) lo hi f nf ∧ WI (w.setCell ⟨g, i * 3, none⟩ k) lo hi r nr ∧ ∃ cur, Blk (w.setCell ⟨g, i * 3, none⟩ k) g 62 cur ∧ cur[i * 3 + 2]? = some r := by
  obtain ⟨h1, A', c', h2, h3, h4⟩ := h
  injection h2 with e1 _ e2
  subst e1 e2
  rcases h4 with h4 | ⟨g, cur, h5, h6, h7, h8, h9⟩
  · omega
  · obtain ⟨u, f, nf, r, nr, k0, k1, k2, k3, k4⟩ := h9 i hi'
    refine ⟨g, u, f, nf, r, nr, h5, h6, h7, (h8.cell _).trans k0, (h8.cell _).trans k1, (h8.cell _).trans k2, h8.frozen _, fun k => ⟨?_, k3.far h8 (by decide) (by decide) _ _, k4.far h8 (by decide) _ _, _, h8.set_ (i * 3) k, by rw [Array.getElem?_setIfInBounds_ne (by omega)]; exact k2⟩⟩
    refine ⟨h1, A, c, rfl, h3, .inr ⟨g, _, h5, h6, h7, h8.set_ (i * 3) k, fun i2 hi2 => ?_⟩⟩
    obtain ⟨u2, f2, nf2, r2, nr2, q0, q1, q2, q3, q4⟩ := h9 i2 hi2
    have e1 : (cur.setIfInBounds (i * 3) k)[i2 * 3 + 1]? = some f2 := by rw [Array.getElem?_setIfInBounds_ne (by omega)]; exact q1
    have e2 : (cur.setIfInBounds (i * 3) k)[i2 * 3 + 2]? = some r2 := by rw [Array.getElem?_setIfInBounds_ne (by omega)]; exact q2
    have e0 : ∃ u', (cur.setIfInBounds (i * 3) k)[i2 * 3]? = some u' := by
      have := (Array.getElem?_eq_some_iff.1 q0).1
      exact ⟨_, Array.getElem?_eq_getElem (by rw [Array.size_setIfInBounds]; exact this)⟩
    obtain ⟨u', e0⟩ := e0
    exact ⟨u', f2, nf2, r2, nr2, e0, e1, e2, q3.far h8 (by decide) (by decide) _ _, q4.far h8 (by decide) _ _⟩
theorem OwnX.wen {w : World} {base lo hi : Nat} {v : Value} {es : List Ent} {yss : List (List Value)} (h : OwnX w base v es yss) (h1 : lo ≤ base) (h2 : w.heap.size ≤ hi) (hl : fitsE es) : WEn w lo hi v es.length := by
  refine ⟨hl.1, ?_⟩
  have hlt := h.lt
  obtain ⟨cs, ho, _, hx⟩ := h
  rcases ho.2 with ⟨rfl, h0⟩ | ⟨g, cap, cur, rfl, hb, hg, hn, _, hcs, ht⟩
  · rw [h0]
    exact ⟨none, 0, rfl, Nat.le_refl _, .inl rfl⟩
  · have := hlt g rfl
    refine ⟨_, cap, rfl, hn, .inr ⟨g, cur, rfl, by omega, by omega, hg, fun i hi => ?_⟩⟩
    obtain ⟨f, r, ys, k1, k2, k3, _, xs, _, k4, k5⟩ := hx i _ (List.getElem?_eq_getElem hi)
    have hm := hl.2 _ (List.getElem_mem hi)
    have get : ∀ {j : Nat} {u : Value}, cs[j]? = some u → cur[j]? = some u := by
      intro j u hu
      rw [← ht, List.getElem?_take] at hu
      split at hu
      · simpa using hu
      · cases hu
    exact ⟨_, f, _, r, _, get k1, get k2, get k3, k4.wl h1 h2 hm.1, k5.wi h1 h2 hm.2⟩
def MarkEPost (lo hi : Nat) (w : World) (e : Ending) (w' : World) : Prop := (∃ y : Nat, e = .returned (.int .i64 y) ∧ y ≤ 2000000000000000000) ∧ Zn lo hi w w'
set_option maxHeartbeats 400000 in
theorem markEntryS_any (lo hi : Nat) (v : Value) (n k : Nat) (w : World) (h : WEn w lo hi v n) (hk : k ≤ 1000000) (kz : Int) (hkz : kz = (k : Nat) := by omega) :
    Calls Try.prog 65 #[v, .int .i64 kz] w (MarkEPost lo hi w) := by
  subst hkz
  obtain ⟨A, c, rfl, hnc, hn⟩ := h.form
  go_enter Try.func65, Try.ntmps65
  go_wp2_with fail
  go_loopw [1, 5] (fun s i wr => ∃ j y : Nat, j ≤ n ∧ i = .int .i64 j ∧ s = .int .i64 y ∧ y ≤ k + 1099512676353 * j ∧ WEn wr lo hi (.slice A n c) n ∧ Zn lo hi w wr) (fun _ i _ => n - (intOf i).toNat)
  case atStart => exact ⟨0, k, Nat.zero_le _, rfl, rfl, by omega, h, Zn.refl _ _ _⟩
  case round =>
    clear h
    obtain ⟨j, y, hj, rfl, rfl, hy, h, hz⟩ := hrel
    by_cases hlt : j < n
    · obtain ⟨g, u, f, nf, r, nr, rfl, h1, h2, c0, c1, c2, f0, hset⟩ := h.at_ hlt
      obtain ⟨hs, hf', hr', cur, hb, hcr⟩ := hset (.int .i64 y)
      have hz1 : Zn lo hi wr (wr.setCell ⟨g, j * 3, none⟩ (.int .i64 y)) := Zn.of_gb (gb_set (p := ⟨g, j * 3, none⟩) (gb_refl wr (some g)) (.inr rfl) _) (fun g' e => by cases e; exact ⟨h1, h2⟩)
      have hz2 := hz.trans hz1
      obtain ⟨Af, cf, rfl, _, hnf⟩ := hf'.form
      obtain ⟨Ar, cr, rfl, _, hnr⟩ := hr'.form
      clear h hset hz hz1
      go_wp2_with fail
      refine (markIntSS_any lo hi _ nf (y + 1) _ (by exact hf') (by omega) _).mono ?_
      rintro e w1 ⟨⟨y1, rfl, hy1⟩, hM1⟩
      have hs1 := hs.mi hM1
      have hr1 := hr'.mi hM1
      have hz3 := hz2.trans hM1.z
      have d2 : w1.cell? ⟨g, j * 3 + 2, none⟩ = some (.slice Ar nr cr) := ((hM1.other g _ cur (by decide) hb).cell _).trans hcr
      clear hb hcr hs hr' hM1 hz2
      go_wp2_with fail
      refine (markIntS_any lo hi _ nr y1 _ (by exact hr1) (by omega) _).mono ?_
      rintro e w2 ⟨rfl, hM2, -, -⟩
      have hs2 := hs1.mi hM2
      have hz4 := hz3.trans hM2.z
      go_wp2_with fail
      go_roundw
      case rel => exact ⟨j + 1, y1 + nr, by omega, by go_num, by go_num, by omega, hs2, hz4⟩
      case measure => simp [intOf]; omega
    · obtain rfl : j = n := by omega
      go_wp2_with fail
      go_ret
      exact ⟨⟨y, rfl, by omega⟩, hz⟩
end Go.Proofs.Ytjlnhijabdkagaa
