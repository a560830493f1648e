/- Walks: markNodeS with a bound; plain facts for the exact laws of the turns. -/
import Derived.Test.YtihobnheficpjaaGreatDoorM2Crew
import Derived.Test.YtihobnheficpjaaGreatDoorE7MarkN
import Derived.Test.YtihobnheficpjaaGreatDoorE5Same
namespace Go.Proofs.YtihobnheficpjaaGreatDoor
open Go.RowKit

theorem sizeL_bound {ll : List (List Int)} {b : Nat} (h : ∀ l ∈ ll, l.length ≤ b) : sizeL ll ≤ ll.length * b := by
  induction ll with
  | nil => simp [sizeL]
  | cons l ll ih =>
    have h1 := h l (by simp)
    have h2 := ih (fun x hx => h x (by simp [hx]))
    rw [sizeL_cons, List.length_cons, Nat.add_mul]
    omega
theorem crewOk_fits {plan : List Node} {c : Crew} (h : CrewOk plan c) : fitsC c ∧ sizeC c ≤ 1000000000 := by
  have hd := deque_len h
  have hr := row_len h
  have hl := planValid_len h.pv
  have hc : c.counts.length = plan.length := by rw [h.counts, lefts_len]
  have hn := done_le h
  have h4 := h.d4
  have hrl := h.rl
  have s1 := sizeL_bound hd
  have s2 := sizeL_bound hr
  have m1 : c.deques.length * 10 ≤ 4 * 10 := Nat.mul_le_mul_right _ h4
  have m2 : c.rows.length * 1000 ≤ 10 * 1000 := Nat.mul_le_mul_right _ (by omega)
  refine ⟨⟨⟨by omega, fun l hl => by have := hd l hl; omega⟩, by omega, by omega, ⟨by omega, fun l hl => by have := hr l hl; omega⟩⟩, ?_⟩
  unfold sizeC
  omega
theorem crewOpt_fits {plan : List Node} {R : Option Crew} (h : ∀ c, R = some c → CrewOk plan c) : fitsC (R.getD crew0) ∧ sizeC (R.getD crew0) ≤ 1000000000 := by
  cases R with
  | none => exact ⟨⟨⟨by decide, by simp [crew0]⟩, by decide, by decide, ⟨by decide, by simp [crew0]⟩⟩, by decide⟩
  | some c => exact crewOk_fits (h c rfl)
theorem boxC_fill {w : World} {b : Nat} {d k o r : Value} {c : Crew} (hb : Blk w b 27 #[.slice none 0 0, .slice none 0 0, .slice none 0 0, .slice none 0 0]) (hc : CV w (.agg #[d, k, o, r]) c) :
    BoxC ((((w.setCell ⟨b, 0, none⟩ d).setCell ⟨b, 1, none⟩ k).setCell ⟨b, 2, none⟩ o).setCell ⟨b, 3, none⟩ r) b d k o r c ∧ w.grownBy ((((w.setCell ⟨b, 0, none⟩ d).setCell ⟨b, 1, none⟩ k).setCell ⟨b, 2, none⟩ o).setCell ⟨b, 3, none⟩ r) (some b) := by
  have hz := (CV.zero w).box
  have h0 : BoxC w b (.slice none 0 0) (.slice none 0 0) (.slice none 0 0) (.slice none 0 0) crew0 := by
    obtain ⟨e1, e2, e3, e4, e, h1, h2, h3, h4⟩ := CV.zero w
    injection e with e
    injection e with e
    injection e with ea e
    injection e with eb e
    injection e with ec e
    injection e with ed e
    subst ea eb ec ed
    exact ⟨hb, h1, h2, h3, h4⟩
  exact ⟨h0.put hc, gb_set4 w b d k o r⟩
theorem WL.len {w : World} {lo hi n m c : Nat} {A : Option Addr} (h : WL w lo hi (.slice A m c) n) : n = m := by
  obtain ⟨_, A', c', e, _⟩ := h
  injection e with _ e _
  exact e.symm
theorem WI.len {w : World} {lo hi n m c : Nat} {A : Option Addr} (h : WI w lo hi (.slice A m c) n) : n = m := by
  obtain ⟨_, A', c', e, _⟩ := h
  injection e with _ e _
  exact e.symm
theorem GS.of_zn {lo hi : Nat} {a b : World} (k : Zn lo hi a b) : GS (fun g => lo ≤ g ∧ g < hi) a b := ⟨k.os, k.tape, k.output, k.size, fun i hi' h => k.block i hi' (by omega)⟩
theorem OwnF.zone {lo hi base : Nat} {w w' : World} {v : Value} {c : Crew} (h : OwnF w base v c) (k : Zn lo hi w w') (hb : hi ≤ base) : OwnF w' base v c := by
  obtain ⟨d, q, o, r, xs, ys, e, h1, h2, h3, h4, h5⟩ := h
  have k' := GS.of_zn k
  have l1 := h1.lt
  have l2 := h1.lts
  have l3 := h2.lt
  have l4 := h3.lt
  have l5 := h4.lt
  have l6 := h4.lq.lts
  exact ⟨d, q, o, r, xs, ys, e, h1.gs k' (fun g hg hs => by have := l1 g hg; omega) (fun u hu g hg hs => by have := l2 u hu g hg; omega), h2.gs k' (fun g hg hs => by have := l3 g hg; omega), h3.gs k' (fun g hg hs => by have := l4 g hg; omega), h4.gs k' (fun g hg hs => by have := l5 g hg; omega) (fun u hu g hg hs => by have := l6 u hu g hg; omega), h5⟩
def MarkNB (lo hi m : Nat) (w : World) (e : Ending) (w' : World) : Prop := (∃ k : Nat, e = .returned (.int .i64 k) ∧ k ≤ m) ∧ Zn lo hi w w'
set_option maxHeartbeats 400000 in
theorem markNodeS_b (lo hi : Nat) (v : Value) (n k : Nat) (w : World) (h : WNd w lo hi v n) (hk : k ≤ 1000000) (kz : Int) (hkz : kz = (k : Nat) := by omega) :
    Calls Tryz.prog 33 #[v, .int .i64 kz] w (MarkNB lo hi (k + 2097153 * n) w) := by
  subst hkz
  obtain ⟨A, c, rfl, hnc, hn⟩ := h.form
  go_enter Tryz.func33, Tryz.ntmps33
  go_wp2_with fail
  go_loopw [1, 5] (fun s i wr => ∃ j y : Nat, j ≤ n ∧ i = .int .i64 j ∧ s = .int .i64 y ∧ y ≤ k + 2097153 * j ∧ WNd wr lo hi (.slice A n c) n ∧ Zn lo hi w wr) (fun _ i _ => n - (intOf i).toNat)
  case atStart => exact ⟨0, k, Nat.zero_le _, rfl, rfl, by omega, h, Zn.refl _ _ _⟩
  case round =>
    clear h
    obtain ⟨j, y, hj, rfl, rfl, hy, h, hz⟩ := hrel
    by_cases hlt : j < n
    · obtain ⟨g, u, f, nf, r, nr, rfl, h1, h2, c0, c1, c2, f0, hset⟩ := h.at_ hlt
      obtain ⟨hs, hf', hr', cur, hb, hcr⟩ := hset (.int .i64 y)
      have hz1 : Zn lo hi wr (wr.setCell ⟨g, j * 3, none⟩ (.int .i64 y)) := Zn.of_gb (gb_set (p := ⟨g, j * 3, none⟩) (gb_refl wr (some g)) (.inr rfl) _) (fun g' e => by cases e; exact ⟨h1, h2⟩)
      have hz2 := hz.trans hz1
      obtain ⟨Af, cf, rfl, _, hnf⟩ := hf'.form
      obtain ⟨Ar, cr, rfl, _, hnr⟩ := hr'.form
      clear h hset hz hz1
      go_wp2_with fail
      refine (markIntS_any lo hi _ nf (y + 1) _ (by exact hf') (by omega) _).mono ?_
      rintro e w1 ⟨rfl, hM1, -, -⟩
      have hs1 := hs.mi hM1
      have hr1 := hr'.mi hM1
      have hz3 := hz2.trans hM1.z
      have d2 : w1.cell? ⟨g, j * 3 + 2, none⟩ = some (.slice Ar nr cr) := ((hM1.other g _ cur (by decide) hb).cell _).trans hcr
      clear hb hcr hs hr' hM1 hz2
      go_wp2_with fail
      refine (markIntS_any lo hi _ nr (y + 1 + nf) _ (by exact hr1) (by omega) _).mono ?_
      rintro e w2 ⟨rfl, hM2, -, -⟩
      have hs2 := hs1.mi hM2
      have hz4 := hz3.trans hM2.z
      go_wp2_with fail
      go_roundw
      case rel => exact ⟨j + 1, y + 1 + nf + nr, by omega, by go_num, by go_num, by omega, hs2, hz4⟩
      case measure => simp [intOf]; omega
    · obtain rfl : j = n := by omega
      go_wp2_with fail
      go_ret
      exact ⟨⟨y, rfl, hy⟩, hz⟩
end Go.Proofs.YtihobnheficpjaaGreatDoor
