/- Walks: the laws' marks in slices of the call's own that begin inside their blocks: markIntS, markIntSS. -/
import Derived.Test.YtihobnheficpjaaGreatDoorE11Marks
import Derived.Test.YtihobnheficpjaaGreatDoorM30
namespace Go.Proofs.YtihobnheficpjaaGreatDoor
open Go.RowKit

theorem QI.put {w : World} {base g o n c j : Nat} {l : List Int} (h : QI w base (.slice (some ⟨g, o, none⟩) n c) l) (hj : j < l.length) (x : Int) :
    (∃ u, w.cell? ⟨g, o + j, none⟩ = some u ∧ w.frozen? ⟨g, o + j, none⟩ = false) ∧ QI (w.setCell ⟨g, o + j, none⟩ (.int .i64 x)) base (.slice (some ⟨g, o, none⟩) n c) (l.set j x) := by
  obtain ⟨A, c', e, h2, h3, h4, h5⟩ := h
  rw [List.length_map] at e h2
  injection e with e1 e2 e3
  subst e1 e2 e3
  rcases h5 with ⟨e, _⟩ | ⟨g', o', cur, e, hb, hB, hsz, hc⟩
  · cases e
  · injection e with e
    injection e with e1 e2
    subst e1 e2
    refine ⟨⟨cur[o + j]'(by omega), by rw [hB.cell]; exact Array.getElem?_eq_getElem (by omega), hB.frozen _⟩, ?_⟩
    refine ⟨some ⟨g, o, none⟩, c, by rw [List.length_map, List.length_set], by rw [List.length_map, List.length_set]; exact h2, h3, ints_one _, .inr ⟨g, o, _, rfl, hb, hB.set_ _ _, by rw [Array.size_setIfInBounds]; exact hsz, fun i u hi => ?_⟩⟩
    rw [List.getElem?_map, List.getElem?_set] at hi
    by_cases hij : j = i
    · subst hij
      rw [if_pos rfl, if_pos hj] at hi
      obtain rfl : Value.int .i64 x = u := by simpa using hi
      rw [Array.getElem?_setIfInBounds_self_of_lt (by omega)]
    · rw [if_neg hij] at hi
      rw [Array.getElem?_setIfInBounds_ne (by omega)]
      exact hc i u (by rw [List.getElem?_map]; exact hi)
theorem QI.start {w : World} {base n c : Nat} {A : Option Addr} {l : List Int} (h : QI w base (.slice A n c) l) (h0 : 0 < n) : ∃ g o, A = some ⟨g, o, none⟩ := by
  obtain ⟨A', c', e, h2, h3, h4, h5⟩ := h
  rw [List.length_map] at e h2
  injection e with e1 e2 e3
  subst e1 e2 e3
  rcases h5 with ⟨_, e⟩ | ⟨g', o', cur, e, _⟩
  · omega
  · exact ⟨_, _, e⟩
theorem QI.gs {S : Nat → Prop} {base : Nat} {w w' : World} {v : Value} {l : List Int} (h : QI w base v l) (k : GS S w w') (hb : ∀ g, v.ownBlock = some g → ¬ S g) : QI w' base v l := by
  have hlt := h.lt
  obtain ⟨A, c, e, h2, h3, h4, h5⟩ := h
  refine ⟨A, c, e, h2, h3, h4, ?_⟩
  rcases h5 with h5 | ⟨g, o, cur, rfl, hb', hB, hsz, hc⟩
  · exact .inl h5
  · exact .inr ⟨g, o, cur, rfl, hb', (k.block g (hlt g (by rw [e]; rfl)).2 (hb g (by rw [e]; rfl))).trans hB, hsz, hc⟩
def MarkQPost (base : Nat) (w : World) (v : Value) (n k : Nat) (e : Ending) (w' : World) : Prop :=
  e = .returned (.int .i64 (k + n : Nat)) ∧ QI w' base v (marksI k n) ∧ w.grownBy w' v.ownBlock
set_option maxHeartbeats 400000 in
theorem markInts_q (base : Nat) (v : Value) (l : List Int) (k : Nat) (w : World) (h : QI w base v l) (hl : l.length ≤ 1048576) (hk : k ≤ 8000000000000000000) (kz : Int) (hkz : kz = (k : Nat) := by omega) :
    Calls Tryz.prog 80 #[v, .int .i64 kz] w (MarkQPost base w v l.length k) := by
  subst hkz
  obtain ⟨A, n, c, rfl, hn, hnc⟩ := h.slice
  have Hn := Lib.hid hn
  rw [← hn] at hl ⊢
  clear hn
  go_enter Tryz.func80, Tryz.ntmps80
  go_wp2_with fail
  go_loopw [1, 5] (fun s i wr => ∃ j : Nat, j ≤ n ∧ i = .int .i64 j ∧ s = .int .i64 (k + j : Nat) ∧ QI wr base (.slice A n c) ((marksI k n).take j ++ l.drop j) ∧ w.grownBy wr (Value.slice A n c).ownBlock) (fun _ i _ => n - (intOf i).toNat)
  case atStart => exact ⟨0, Nat.zero_le _, rfl, rfl, by simpa using h, gb_refl _ _⟩
  case round =>
    clear h
    obtain ⟨j, hj, rfl, rfl, h, hG⟩ := hrel
    by_cases hlt : j < n
    · obtain ⟨g, o, rfl⟩ := h.start (by omega)
      have hlen : ((marksI k n).take j ++ l.drop j).length = n := by
        have := Hn.out
        rw [List.length_append, List.length_take, List.length_drop, marksI_len]
        omega
      obtain ⟨⟨u, c0, f0⟩, hQ⟩ := h.put (j := j) (by omega) ((k + j : Nat) : Int)
      have hmg : (marksI k n)[j]? = some ((k + j : Nat) : Int) := by
        unfold marksI
        rw [List.getElem?_map, List.getElem?_range hlt]
        rfl
      have hset := mix_set (ms := marksI k n) (ll := l) (by rw [marksI_len]; exact Hn.out) hmg
      rw [hset] at hQ
      have hG2 : w.grownBy (wr.setCell ⟨g, o + j, none⟩ (.int .i64 (k + j : Nat))) (Value.slice (some ⟨g, o, none⟩) n c).ownBlock := gb_set (p := ⟨g, o + j, none⟩) hG (.inr rfl) _
      clear h hG hset hmg hlen
      go_wp2_with fail
      go_roundw
      case rel => exact ⟨j + 1, by omega, by go_num, by go_num, hQ, hG2⟩
      case measure => simp [intOf]; omega
    · obtain rfl : j = n := by omega
      have hQ : QI wr base (.slice A j c) (marksI k j) := by
        have h2 := h
        rw [List.take_of_length_le (by rw [marksI_len]; exact Nat.le_refl _), List.drop_eq_nil_of_le (by rw [← Hn.out]; exact Nat.le_refl _), List.append_nil] at h2
        exact h2
      clear h
      go_wp2_with fail
      go_ret
      exact ⟨rfl, hQ, hG⟩
section
variable {w w' : World} {v : Value} {ll : List (List Int)} {base : Nat} {xs : List Value}
theorem LQ.ne (h : LQ w base v ll xs) : ∀ u ∈ xs, ∀ g, u.ownBlock = some g → v.ownBlock ≠ some g := by
  intro u hu g hg hv
  obtain ⟨i, hi, rfl⟩ := List.getElem_of_mem hu
  have hl := h.len
  obtain ⟨u', k1, k2⟩ := h.2 i _ (List.getElem?_eq_getElem (by omega))
  rw [List.getElem?_eq_getElem hi] at k1
  cases k1
  obtain ⟨cur, hb⟩ := k2.block hg
  exact NotE.own (E := 3) h.1 (by decide) g hv cur hb
theorem LQ.gs {S : Nat → Prop} (h : LQ w base v ll xs) (k : GS S w w') (hv : ∀ g, v.ownBlock = some g → ¬ S g) (hx : ∀ u ∈ xs, ∀ g, u.ownBlock = some g → ¬ S g) : LQ w' base v ll xs := by
  refine ⟨own_gs h.1 k hv, fun i l hi => ?_⟩
  obtain ⟨u, k1, k2⟩ := h.2 i l hi
  exact ⟨u, k1, k2.gs k (hx u (List.mem_of_getElem? k1))⟩
theorem LQ.upd {j : Nat} {u : Value} {l' : List Int} (h : LQ w base v ll xs) (hap : Apart xs) (hu : xs[j]? = some u) (k : GS (fun g => u.ownBlock = some g) w w') (ho : QI w' base u l') : LQ w' base v (ll.set j l') xs := by
  have hl := h.len
  have hne := h.ne
  have hj : j < xs.length := (List.getElem?_eq_some_iff.1 hu).1
  refine ⟨by rw [List.length_set]; exact own_gs h.1 k (fun g hg hg' => hne u (List.mem_of_getElem? hu) g hg' hg), fun i l hi => ?_⟩
  by_cases hij : i = j
  · subst hij
    rw [List.getElem?_set_self (by omega)] at hi
    obtain rfl : l' = l := by simpa using hi
    exact ⟨u, hu, ho⟩
  · rw [List.getElem?_set_ne (fun e => hij e.symm)] at hi
    obtain ⟨u', k1, k2⟩ := h.2 i l hi
    refine ⟨u', k1, k2.gs k (fun g hg hg' => ?_)⟩
    rw [Apart.iff] at hap
    rcases Nat.lt_or_ge i j with hlt | hge
    · exact hap i j u' u g hlt k1 hu hg hg'
    · exact hap j i u u' g (by omega) hu k1 hg' hg
end
def MarkLQ (base : Nat) (w : World) (v : Value) (ll : List (List Int)) (xs : List Value) (k : Nat) (e : Ending) (w' : World) : Prop :=
  e = .returned (.int .i64 (k + sizeL ll : Nat)) ∧ LQ w' base v (marksL k ll) xs ∧ GS (fun g => ∃ u ∈ xs, u.ownBlock = some g) w w'
set_option maxHeartbeats 400000 in
theorem markIntSS_q (base : Nat) (v : Value) (ll : List (List Int)) (xs : List Value) (k : Nat) (w : World) (h : LQ w base v ll xs) (hap : Apart xs) (hs : sizeL ll ≤ 1000000000) (hk : k ≤ 4000000000000000000) (hll : ∀ l ∈ ll, l.length ≤ 1048576) (kz : Int) (hkz : kz = (k : Nat) := by omega) :
    Calls Tryz.prog 81 #[v, .int .i64 kz] w (MarkLQ base w v ll xs k) := by
  subst hkz
  obtain ⟨A, n, c, rfl, hc, hn, hn9⟩ := h.rl.form'
  have Hn := Lib.hid hn
  have Hll := Lib.hid hll
  have HS := Lib.hid hs
  clear hn hll hs
  go_enter Tryz.func81, Tryz.ntmps81
  go_wp2_with fail
  go_loopw [1, 5] (fun s i wr => ∃ j y : Nat, j ≤ n ∧ i = .int .i64 j ∧ s = .int .i64 y ∧ Hid (y = k + sizeL (ll.take j)) ∧ LQ wr base (.slice A n c) ((marksL k ll).take j ++ ll.drop j) xs ∧ GS (fun g => ∃ u ∈ xs, u.ownBlock = some g) w wr) (fun _ i _ => n - (intOf i).toNat)
  case atStart => exact ⟨0, k, Nat.zero_le _, rfl, rfl, by show _ = _; simp [sizeL], by simpa using h, GS.refl _ _⟩
  case round =>
    clear h
    obtain ⟨j, y, hj, rfl, rfl, Hy, h, hz⟩ := hrel
    by_cases hlt : j < n
    · obtain ⟨l, hl⟩ : ∃ l, ll[j]? = some l := ⟨_, List.getElem?_eq_getElem (by rw [← Hn.out]; exact hlt)⟩
      have hmg := mix_get (marksL_len k ll) hl
      obtain ⟨g, o, l2, B1, m1, e1, rfl, hl2, c0, -, hm1, -, -⟩ := h.rl.at_ hlt
      obtain rfl : l = l2 := Option.some.inj (hmg.symm.trans hl2)
      obtain ⟨u, hu, hou⟩ := h.2 j l hmg
      obtain rfl : u = .slice B1 m1 e1 := by
        obtain ⟨g2, o2, cur, e0, _, hcc⟩ := TS.at_ (by have := TS.of_own h.1; rw [List.length_append, List.length_take, List.length_drop, marksL_len, ← Hn.out, show min j n + (n - j) = n by omega] at this; exact this) (by omega : 0 < n)
        injection e0 with e0
        injection e0 with q1 q2 _
        subst q1 q2
        exact Option.some.inj ((hcc j u (by simpa using hu)).symm.trans c0)
      have hll1 := Hll.out l (List.mem_of_getElem? hl)
      have hyb : y ≤ 5000000000000000000 := by
        have := Hy.out
        have := sizeL_take ll j
        have := HS.out
        omega
      have hHl := Lib.hid hl
      clear hm1 hl2 hmg hl
      go_wp2_with fail
      refine (markInts_q base _ l y _ (by exact hou) hll1 (by omega) _).mono ?_
      rintro e w1 ⟨rfl, hou2, hgr⟩
      have hup := h.upd hap hu (GS.of_gb hgr) hou2
      have hset : Hid (((marksL k ll).take j ++ ll.drop j).set j (marksI y l.length) = (marksL k ll).take (j + 1) ++ ll.drop (j + 1)) := by
        refine mix_set (marksL_len k ll) ?_
        have := marksL_get k ll j l hHl.out
        rw [this, ← Hy.out]
      rw [hset.out] at hup
      have hz2 := hz.trans ((GS.of_gb hgr).mono (fun g hg => ⟨_, List.mem_of_getElem? hu, hg⟩))
      have Hy2 : Hid (y + l.length = k + sizeL (ll.take (j + 1))) := by
        show _ = _
        rw [sizeL_snoc hHl.out, Hy.out]
        omega
      clear hgr hou hou2 h hz
      obtain ⟨m, hm⟩ : ∃ m, m = l.length := ⟨_, rfl⟩
      rw [← hm] at hll1 Hy2 ⊢
      clear hm
      go_wp2_with fail
      go_roundw
      case rel => exact ⟨j + 1, y + m, by omega, by go_num, by go_num, Hy2, hup, hz2⟩
      case measure => simp [intOf]; omega
    · obtain rfl : j = n := by omega
      have h2 : LQ wr base (.slice A j c) (marksL k ll) xs := by
        have := h
        rw [List.take_of_length_le (by rw [marksL_len, ← Hn.out]; exact Nat.le_refl _), List.drop_eq_nil_of_le (by rw [← Hn.out]; exact Nat.le_refl _), List.append_nil] at this
        exact this
      have hy2 : y = k + sizeL ll := by
        have := Hy.out
        rw [List.take_of_length_le (by rw [← Hn.out]; exact Nat.le_refl _)] at this
        exact this
      have Hy2 := Lib.hid hy2
      clear hy2 Hy h
      go_wp2_with fail
      go_ret
      exact ⟨by have e0 := Hy2.out; subst e0; first | rfl | simp, h2, hz⟩
end Go.Proofs.YtihobnheficpjaaGreatDoor
