/- Walks: impl.copyLists, impl.copyEntry. -/
import Derived.Test.YtjlnhijabdkagaaS7Cache
import Derived.Test.YtjlnhijabdkagaaA14Cache
namespace Go.Proofs.Ytjlnhijabdkagaa
open Go.RowKit

/-- A row of rows, all of the call's own. -/
def OwnLO (w : World) (base : Nat) (v : Value) (ll : List (List Int)) : Prop := ∃ xs, w.ownsRow base 27 1 v ll.length xs ∧ ∀ (i : Nat) (l : List Int), ll[i]? = some l → ∃ u, xs[i]? = some u ∧ OwnI w base u l
section
variable {w w' : World} {v : Value} {ll : List (List Int)} {base : Nat} {row : Option Nat}
theorem OwnLO.grown (h : OwnLO w base v ll) (hg : w.grownBy w' row) (hr : NotE w 3 row) (hr' : NotE w 27 row) : OwnLO w' base v ll := by
  obtain ⟨xs, h1, h2⟩ := h
  refine ⟨xs, own_grown h1 hg hr', fun i l hi => ?_⟩
  obtain ⟨u, k1, k2⟩ := h2 i l hi
  exact ⟨u, k1, k2.grown hg hr⟩
theorem OwnLO.new (h : OwnLO w base v ll) (hg : w.grownBy w' none) : OwnLO w' base v ll := h.grown hg (NotE.none _ _) (NotE.none _ _)
theorem OwnLO.rl (h : OwnLO w base v ll) : RL w v ll := let ⟨xs, h1, h2⟩ := h; ⟨xs, TS.of_own h1, fun i l hi => let ⟨u, k1, k2⟩ := h2 i l hi; ⟨u, k1, k2.ri⟩⟩
theorem OwnLO.lt (h : OwnLO w base v ll) : ∀ g, v.ownBlock = some g → base ≤ g ∧ g < w.heap.size := let ⟨_, h1, _⟩ := h; World.ownsRow.lt h1
theorem OwnLO.nil (w : World) (base : Nat) : OwnLO w base (.slice none 0 0) [] := ⟨[], World.ownsRow_nil _ _ _ _, fun i nd h => by simp at h⟩
theorem OwnLO.low {a b : Nat} (h : OwnLO w a v ll) (hab : b ≤ a) : OwnLO w b v ll := by
  obtain ⟨xs, h1, h2⟩ := h
  refine ⟨xs, ⟨h1.1, ?_⟩, fun i l hi => let ⟨u, k1, k2⟩ := h2 i l hi; ⟨u, k1, k2.low hab⟩⟩
  rcases h1.2 with h0 | ⟨g, cap, cur, h1, h2, h3⟩
  · exact .inl h0
  · exact .inr ⟨g, cap, cur, h1, Nat.le_trans hab h2, h3⟩
end
theorem OwnLO.cell {w : World} {base g n cap k : Nat} {ll : List (List Int)} (h : OwnLO w base (.slice (some ⟨g, 0, none⟩) n cap) ll) (hk : k < ll.length) : ∃ u, w.cell? ⟨g, k, none⟩ = some u ∧ w.frozen? ⟨g, k, none⟩ = false := by
  obtain ⟨xs, h1, h2⟩ := h
  rcases h1.2 with ⟨e0, hz⟩ | ⟨g', cap', cur, e0, hb, hh, hn, hm, hcs, ht⟩
  · cases e0
  · injection e0 with e1 e2 e3
    injection e1 with e1
    injection e1 with e1
    subst e1 e3
    have hB : Blk w g 27 cur := hh
    refine ⟨cur[k]'(by rw [hcs]; omega), ?_, hB.frozen _⟩
    rw [hB.cell]
    exact Array.getElem?_eq_getElem (by rw [hcs]; omega)
theorem OwnLO.set_ {w : World} {base g n cap k : Nat} {ll : List (List Int)} {l : List Int} {f : Value} (h : OwnLO w base (.slice (some ⟨g, 0, none⟩) n cap) ll) (hk : k < ll.length) (hf : OwnI w base f l) :
    OwnLO (w.setCell ⟨g, k, none⟩ f) base (.slice (some ⟨g, 0, none⟩) n cap) (ll.set k l) := by
  obtain ⟨xs, h1, h2⟩ := h
  have hn : n = ll.length := by
    rcases h1.2 with ⟨e0, hz⟩ | ⟨g', cap', cur, e0, _⟩
    · cases e0
    · injection e0
  subst hn
  have s1 := World.ownsRow.stored h1 k f
  have hne : NotE w 3 (some g) := NotE.own (v := .slice (some ⟨g, 0, none⟩) ll.length cap) h1 (by decide)
  have hxl : xs.length = ll.length := by have := h1.1; omega
  refine ⟨_, by rw [List.length_set]; exact s1.1, fun i x hi => ?_⟩
  by_cases hik : i = k
  · subst hik
    rw [List.getElem?_set_self hk] at hi
    obtain rfl : l = x := by simpa using hi
    exact ⟨f, by rw [List.getElem?_set_self (by omega)], hf.grown s1.2 hne⟩
  · rw [List.getElem?_set_ne (fun e => hik e.symm)] at hi
    obtain ⟨u, k1, k2⟩ := h2 i x hi
    exact ⟨u, by rw [List.getElem?_set_ne (fun e => hik e.symm)]; exact k1, k2.grown s1.2 hne⟩
theorem OwnLO.made {w : World} {base n : Nat} {v : Value} (h : w.ownsRow base 27 1 v n (madeCells (Value.slice none 0 0).cells n).toList) : OwnLO w base v (List.replicate n []) := by
  refine ⟨_, by rw [List.length_replicate]; exact h, fun i l hi => ?_⟩
  obtain ⟨hin, rfl⟩ : i < n ∧ l = [] := by
    rw [List.getElem?_replicate] at hi
    split at hi
    · exact ⟨by assumption, by injection hi with e; exact e.symm⟩
    · cases hi
  have hc : (Value.slice none 0 0).cells = #[.slice none 0 0] := rfl
  rw [hc]
  exact ⟨.slice none 0 0, by simp [madeCells, hin, Nat.mod_one], OwnI.nil _ _⟩
def ListsOutO (w : World) (ll : List (List Int)) (e : Ending) (w' : World) : Prop := ∃ v', e = .returned v' ∧ OwnLO w' w.heap.size v' ll ∧ w.grownBy w' none
set_option maxHeartbeats 800000 in
theorem copyLists_any (v : Value) (ll : List (List Int)) (w : World) (h : RL w v ll) (hl : ll.length ≤ 1000) (hll : ∀ l ∈ ll, l.length ≤ 1000) : Calls Try.prog 147 #[v] w (ListsOutO w ll) := by
  obtain ⟨A, n, c, rfl, hc, hn, hnx⟩ := h.form'
  have hn1k : n ≤ 1000 := by omega
  have Hn := Lib.hid hn
  have Hll := Lib.hid hll
  clear hn hll
  obtain ⟨i0, hi, hz0, hz1, hz2⟩ := info_parts info27
  go_enter Try.func147, Try.ntmps147
  go_wp2_with (at_make; go_must (refine wpList_make_full _ rfl _ _ 45 rfl w.heap.size 27 i0 _ 1 Try.underlying45 hi hz0 hz1 _ _ _ _ n rfl rfl rfl rfl (by rw [hz2]; omega) (by unfold maxLen; omega) (Nat.le_refl _) ?_))
  intro w0 hown0 hg0
  have hO0 : OwnLO w0 w.heap.size (.slice (some ⟨w.heap.size, 0, none⟩) n n) (List.replicate n []) := by
    refine OwnLO.made ?_
    have e : n * 1 = n := Nat.mul_one n
    first | exact hown0 | (rw [e] at hown0; exact hown0) | (simp at hown0; exact hown0)
  clear hown0
  go_wp2_with fail
  go_loopg [11] (n + 1) (fun mm i wr => ∃ k : Nat, k ≤ n ∧ mm = n + 1 - k ∧ i = .int .i64 k ∧ Hid (OwnLO wr w.heap.size (.slice (some ⟨w.heap.size, 0, none⟩) n n) (ll.take k ++ List.replicate (n - k) [])) ∧ w.grownBy wr none)
  case atStart => exact ⟨0, Nat.zero_le _, rfl, rfl, hO0, hg0⟩
  case round =>
    clear hO0 hg0
    obtain ⟨k, hk, rfl, rfl, HO, hg⟩ := hrel
    by_cases hlt : k < n
    · obtain ⟨g, o, l, B, m, e, rfl, hx, c0, hrl, -, -, -⟩ := (h.new hg).at_ hlt
      have hl2 : l.length ≤ 1000000000 := by have := Hll.out l (List.mem_of_getElem? hx); omega
      have hset : Hid ((ll.take k ++ List.replicate (n - k) ([] : List Int)).set k l = ll.take (k + 1) ++ List.replicate (n - (k + 1)) []) := by
        show _ = _
        obtain ⟨hk', hx'⟩ := List.getElem?_eq_some_iff.1 hx
        have hsl : (ll.take k).length = k := by rw [List.length_take]; omega
        rw [List.set_append_right _ _ (by omega), hsl, Nat.sub_self, show n - k = n - (k + 1) + 1 by omega, List.replicate_succ, List.set_cons_zero, List.take_succ_eq_append_getElem hk', hx', List.append_assoc]
        rfl
      have Hlen : Hid (k < (ll.take k ++ List.replicate (n - k) ([] : List Int)).length) := by
        show _ < _
        rw [List.length_append, List.length_replicate, List.length_take, ← Hn.out]
        omega
      clear hx
      go_wp2_with fail
      refine (copyInts_any _ l _ hrl hl2).mono ?_
      rintro e' w4 ⟨u, rfl, ho, hg4⟩
      have hO4 := HO.out.new hg4
      obtain ⟨u0, c4, f4⟩ := hO4.cell Hlen.out
      have hO5 := hO4.set_ Hlen.out (ho.low hg.size)
      rw [hset.out] at hO5
      have HO5 := Lib.hid hO5
      have hg5 : w.grownBy (w4.setCell ⟨w.heap.size, k, none⟩ u) none := gb_set (p := ⟨w.heap.size, k, none⟩) (gb_trans hg hg4) (.inl (Nat.le_refl _)) _
      obtain ⟨A', n', c', rfl⟩ := ho.ri.val
      clear hO4 hO5 HO ho
      go_wp2_with fail
      go_roundg (n + 1 - (k + 1))
      case measure => omega
      case rel => exact ⟨k + 1, by omega, rfl, by go_num, HO5, hg5⟩
    · obtain rfl : k = n := by omega
      have hO2 : OwnLO wr w.heap.size (.slice (some ⟨w.heap.size, 0, none⟩) k k) ll := by
        have := HO.out
        rw [Nat.sub_self, List.replicate_zero, List.append_nil, List.take_of_length_le (by rw [← Hn.out]; exact Nat.le_refl _)] at this
        exact this
      clear HO
      go_wp2_with fail
      go_ret
      exact ⟨_, rfl, hO2, hg⟩
def EntOutO (w : World) (e : Ent) (r : Ending) (w' : World) : Prop := ∃ rv ov, r = .returned (.agg #[.int .i64 e.kind, rv, ov]) ∧ OwnLO w' w.heap.size rv e.rows ∧ OwnI w' w.heap.size ov e.out ∧ w.grownBy w' none
set_option maxHeartbeats 1600000 in
set_option maxRecDepth 20000 in
theorem copyEntry_any (rv ov : Value) (e : Ent) (w : World) (h : RL w rv e.rows) (ho : RI w ov e.out) (hrl : e.rows.length ≤ 1000) (hol : e.out.length ≤ 1000) (hll : ∀ l ∈ e.rows, l.length ≤ 1000) :
    Calls Try.prog 130 #[.agg #[.int .i64 e.kind, rv, ov]] w (EntOutO w e) := by
  obtain ⟨A1, n1, c1, rfl⟩ := h.val
  obtain ⟨A2, n2, c2, rfl⟩ := ho.val
  have Bb : Blk ((w.alloc (.cells #[.int .i64 e.kind, .slice A1 n1 c1, .slice A2 n2 c2] 62)).alloc (.cells #[.int .i64 0, .slice none 0 0, .slice none 0 0] 62)) w.heap.size 62 #[.int .i64 e.kind, .slice A1 n1 c1, .slice A2 n2 c2] := (Blk.new w _ _).alloc _
  have Br : Blk ((w.alloc (.cells #[.int .i64 e.kind, .slice A1 n1 c1, .slice A2 n2 c2] 62)).alloc (.cells #[.int .i64 0, .slice none 0 0, .slice none 0 0] 62)) (w.heap.size + 1) 62 #[.int .i64 0, .slice none 0 0, .slice none 0 0] := by
    have := Blk.new (w.alloc (.cells #[.int .i64 e.kind, .slice A1 n1 c1, .slice A2 n2 c2] 62)) 62 #[.int .i64 0, .slice none 0 0, .slice none 0 0]
    rw [World.size_alloc] at this
    exact this
  have hgW : w.grownBy ((w.alloc (.cells #[.int .i64 e.kind, .slice A1 n1 c1, .slice A2 n2 c2] 62)).alloc (.cells #[.int .i64 0, .slice none 0 0, .slice none 0 0] 62)) none := gb_alloc (gb_alloc (gb_refl w none) _) _
  have Hll := Lib.hid hll
  clear hll
  go_enter Try.func130, Try.ntmps130
  go_upto_region 1 with fail
  generalize ((w.alloc (.cells #[.int .i64 e.kind, .slice A1 n1 c1, .slice A2 n2 c2] 62)).alloc (.cells #[.int .i64 0, .slice none 0 0, .slice none 0 0] 62)) = W at *
  have d0 : W.cell? ⟨w.heap.size, 0, none⟩ = some (.int .i64 e.kind) := Bb.cell 0
  have d1 : W.cell? ⟨w.heap.size, 1, none⟩ = some (.slice A1 n1 c1) := Bb.cell 1
  have d2 : W.cell? ⟨w.heap.size, 2, none⟩ = some (.slice A2 n2 c2) := Bb.cell 2
  have hgd : w.grownBy W.drew none := gb_drew hgW
  have hLd : RL W.drew (.slice A1 n1 c1) e.rows := h.new hgd
  have hR : w.heap.size ≤ w.heap.size + 1 := Nat.le_succ _
  generalize w.heap.size + 1 = R at *
  go_region_law (first
    | (go_simp; go_at_call 147; refine (copyLists_any _ e.rows _ (by exact hLd) hrl Hll.out).mono ?_; rintro e' w3 ⟨u3, rfl, ho3, hg3⟩; have hg13 := gb_trans hgd hg3; have Bb3 := Bb.grown (gb_trans (gb_drew (gb_refl _ none)) hg3) (by simp); have Br3 := Br.grown (gb_trans (gb_drew (gb_refl _ none)) hg3) (by simp); have x0 := Bb3.cell 0; have x2 := Bb3.cell 2; have hI3 := ho.new hg13; have ho3b := ho3.low hgd.size; obtain ⟨A5, n5, c5, rfl⟩ := ho3.rl.val)
    | (go_simp; go_at_call 91; refine (copyInts_any _ e.out _ (by exact hI3) (by omega)).mono ?_; rintro e' w4 ⟨u4, rfl, ho4, hg4⟩; have hg14 := gb_trans hg13 hg4; have Bb4 := Bb3.grown hg4 (by simp); have Br4 := Br3.grown hg4 (by simp); have y0 := Bb4.cell 0; have r0 := Br4.cell 0; have r1 := Br4.cell 1; have r2 := Br4.cell 2; have q0 := Br4.frozen 0; have q1 := Br4.frozen 1; have q2 := Br4.frozen 2; have ho4b := ho4.low hg13.size; have ho3c := ho3b.new hg4; obtain ⟨A6, n6, c6, rfl⟩ := ho4.ri.val))
  all_goals
    go_wp2_with fail
    refine bodyPost_ret (v := .agg #[.int .i64 e.kind, .slice A5 n5 c5, .slice A6 n6 c6]) (by simp [results, Try.results130, go_sem, r0, r1, r2]) rfl ?_
    have hst := gb_set3 w4 R (.int .i64 e.kind) (.slice A5 n5 c5) (.slice A6 n6 c6)
    have hne : NotE w4 3 (some R) := NotE.blk Br4 (by decide)
    have hne2 : NotE w4 27 (some R) := NotE.blk Br4 (by decide)
    exact ⟨_, _, rfl, ho3c.grown hst hne hne2, ho4b.grown hst hne, gb_new hg14 hst (fun g e => by cases e; exact .inl hR)⟩
end Go.Proofs.Ytjlnhijabdkagaa
