/- Walks: impl.copyLists, impl.copyEntry. -/
import Derived.Test.YtjlnhijabdkagaaS7Cache
import Derived.Test.YtjlnhijabdkagaaA14Cache
import Derived.Test.YtjlnhijabdkagaaE9Ents
namespace Go.Proofs.Ytjlnhijabdkagaa
open Go.RowKit

def ListsOutO (w : World) (ll : List (List Int)) (e : Ending) (w' : World) : Prop := ∃ v', e = .returned v' ∧ OwnLO w' w.heap.size v' ll ∧ w.grownBy w' none
set_option maxHeartbeats 800000 in
theorem copyLists_any (v : Value) (ll : List (List Int)) (w : World) (h : RL w v ll) (hl : ll.length ≤ 1000) (hll : ∀ l ∈ ll, l.length ≤ 1000) : Calls Try.prog 147 #[v] w (ListsOutO w ll) := by
  obtain ⟨A, n, c, rfl, hc, hn, hnx⟩ := h.form'
  have hn1k : n ≤ 1000 := by omega
  have Hn := Lib.hid hn
  have Hll := Lib.hid hll
  clear hn hll
  obtain ⟨i0, hi, hz0, hz1, hz2⟩ := info_parts info27
  go_enter Try.func147, Try.ntmps147
  go_wp2_with (at_make; go_must (refine wpList_make_full _ rfl _ _ 45 rfl w.heap.size 27 i0 _ 1 Try.underlying45 hi hz0 hz1 _ _ _ _ n rfl rfl rfl rfl (by rw [hz2]; omega) (by unfold maxLen; omega) (Nat.le_refl _) ?_))
  intro w0 hown0 hg0
  have hO0 : OwnLO w0 w.heap.size (.slice (some ⟨w.heap.size, 0, none⟩) n n) (List.replicate n []) := by
    refine OwnLO.made ?_
    have e : n * 1 = n := Nat.mul_one n
    first | exact hown0 | (rw [e] at hown0; exact hown0) | (simp at hown0; exact hown0)
  clear hown0
  go_wp2_with fail
  go_loopg [11] (n + 1) (fun mm i wr => ∃ k : Nat, k ≤ n ∧ mm = n + 1 - k ∧ i = .int .i64 k ∧ Hid (OwnLO wr w.heap.size (.slice (some ⟨w.heap.size, 0, none⟩) n n) (ll.take k ++ List.replicate (n - k) [])) ∧ w.grownBy wr none)
  case atStart => exact ⟨0, Nat.zero_le _, rfl, rfl, hO0, hg0⟩
  case round =>
    clear hO0 hg0
    obtain ⟨k, hk, rfl, rfl, HO, hg⟩ := hrel
    by_cases hlt : k < n
    · obtain ⟨g, o, l, B, m, e, rfl, hx, c0, hrl, -, -, -⟩ := (h.new hg).at_ hlt
      have hl2 : l.length ≤ 1000000000 := by have := Hll.out l (List.mem_of_getElem? hx); omega
      have hset : Hid ((ll.take k ++ List.replicate (n - k) ([] : List Int)).set k l = ll.take (k + 1) ++ List.replicate (n - (k + 1)) []) := by
        show _ = _
        obtain ⟨hk', hx'⟩ := List.getElem?_eq_some_iff.1 hx
        have hsl : (ll.take k).length = k := by rw [List.length_take]; omega
        rw [List.set_append_right _ _ (by omega), hsl, Nat.sub_self, show n - k = n - (k + 1) + 1 by omega, List.replicate_succ, List.set_cons_zero, List.take_succ_eq_append_getElem hk', hx', List.append_assoc]
        rfl
      have Hlen : Hid (k < (ll.take k ++ List.replicate (n - k) ([] : List Int)).length) := by
        show _ < _
        rw [List.length_append, List.length_replicate, List.length_take, ← Hn.out]
        omega
      clear hx
      go_wp2_with fail
      refine (copyInts_any _ l _ hrl hl2).mono ?_
      rintro e' w4 ⟨u, rfl, ho, hg4⟩
      have hO4 := HO.out.new hg4
      obtain ⟨u0, c4, f4⟩ := hO4.cell Hlen.out
      have hO5 := HO.out.set_ hg4 hg.size Hlen.out ho
      rw [hset.out] at hO5
      have HO5 := Lib.hid hO5
      have hg5 : w.grownBy (w4.setCell ⟨w.heap.size, k, none⟩ u) none := gb_set (p := ⟨w.heap.size, k, none⟩) (gb_trans hg hg4) (.inl (Nat.le_refl _)) _
      obtain ⟨A', n', c', rfl⟩ := ho.ri.val
      clear hO4 hO5 HO ho
      go_wp2_with fail
      go_roundg (n + 1 - (k + 1))
      case measure => omega
      case rel => exact ⟨k + 1, by omega, rfl, by go_num, HO5, hg5⟩
    · obtain rfl : k = n := by omega
      have hO2 : OwnLO wr w.heap.size (.slice (some ⟨w.heap.size, 0, none⟩) k k) ll := by
        have := HO.out
        rw [Nat.sub_self, List.replicate_zero, List.append_nil, List.take_of_length_le (by rw [← Hn.out]; exact Nat.le_refl _)] at this
        exact this
      clear HO
      go_wp2_with fail
      go_ret
      exact ⟨_, rfl, hO2, hg⟩
def EntOutO (w : World) (e : Ent) (r : Ending) (w' : World) : Prop := ∃ rv ov ys, r = .returned (.agg #[.int .i64 e.kind, rv, ov]) ∧ EX w' w.heap.size rv ov e ys ∧ Apart ys ∧ w.grownBy w' none
set_option maxHeartbeats 1600000 in
set_option maxRecDepth 20000 in
theorem copyEntry_any (rv ov : Value) (e : Ent) (w : World) (h : RL w rv e.rows) (ho : RI w ov e.out) (hrl : e.rows.length ≤ 1000) (hol : e.out.length ≤ 1000) (hll : ∀ l ∈ e.rows, l.length ≤ 1000) :
    Calls Try.prog 130 #[.agg #[.int .i64 e.kind, rv, ov]] w (EntOutO w e) := by
  obtain ⟨A1, n1, c1, rfl⟩ := h.val
  obtain ⟨A2, n2, c2, rfl⟩ := ho.val
  have Bb : Blk ((w.alloc (.cells #[.int .i64 e.kind, .slice A1 n1 c1, .slice A2 n2 c2] 62)).alloc (.cells #[.int .i64 0, .slice none 0 0, .slice none 0 0] 62)) w.heap.size 62 #[.int .i64 e.kind, .slice A1 n1 c1, .slice A2 n2 c2] := (Blk.new w _ _).alloc _
  have Br : Blk ((w.alloc (.cells #[.int .i64 e.kind, .slice A1 n1 c1, .slice A2 n2 c2] 62)).alloc (.cells #[.int .i64 0, .slice none 0 0, .slice none 0 0] 62)) (w.heap.size + 1) 62 #[.int .i64 0, .slice none 0 0, .slice none 0 0] := by
    have := Blk.new (w.alloc (.cells #[.int .i64 e.kind, .slice A1 n1 c1, .slice A2 n2 c2] 62)) 62 #[.int .i64 0, .slice none 0 0, .slice none 0 0]
    rw [World.size_alloc] at this
    exact this
  have hgW : w.grownBy ((w.alloc (.cells #[.int .i64 e.kind, .slice A1 n1 c1, .slice A2 n2 c2] 62)).alloc (.cells #[.int .i64 0, .slice none 0 0, .slice none 0 0] 62)) none := gb_alloc (gb_alloc (gb_refl w none) _) _
  have Hll := Lib.hid hll
  clear hll
  go_enter Try.func130, Try.ntmps130
  go_upto_region 1 with fail
  generalize ((w.alloc (.cells #[.int .i64 e.kind, .slice A1 n1 c1, .slice A2 n2 c2] 62)).alloc (.cells #[.int .i64 0, .slice none 0 0, .slice none 0 0] 62)) = W at *
  have d0 : W.cell? ⟨w.heap.size, 0, none⟩ = some (.int .i64 e.kind) := Bb.cell 0
  have d1 : W.cell? ⟨w.heap.size, 1, none⟩ = some (.slice A1 n1 c1) := Bb.cell 1
  have d2 : W.cell? ⟨w.heap.size, 2, none⟩ = some (.slice A2 n2 c2) := Bb.cell 2
  have hgd : w.grownBy W.drew none := gb_drew hgW
  have hLd : RL W.drew (.slice A1 n1 c1) e.rows := h.new hgd
  have hR : w.heap.size ≤ w.heap.size + 1 := Nat.le_succ _
  generalize w.heap.size + 1 = R at *
  go_region_law (first
    | (go_simp; go_at_call 147; refine (copyLists_any _ e.rows _ (by exact hLd) hrl Hll.out).mono ?_; rintro e' w3 ⟨u3, rfl, ⟨xs3, ho3, hap3⟩, hg3⟩; have hg13 := gb_trans hgd hg3; have Bb3 := Bb.grown (gb_trans (gb_drew (gb_refl _ none)) hg3) (by simp); have Br3 := Br.grown (gb_trans (gb_drew (gb_refl _ none)) hg3) (by simp); have x0 := Bb3.cell 0; have x2 := Bb3.cell 2; have hI3 := ho.new hg13; have ho3b := ho3.low hgd.size; obtain ⟨A5, n5, c5, rfl⟩ := ho3.rl.val)
    | (go_simp; go_at_call 91; refine (copyInts_any _ e.out _ (by exact hI3) (by omega)).mono ?_; rintro e' w4 ⟨u4, rfl, ho4, hg4⟩; have hap4 := hap3.join (Apart.one u4) (fun u hu g hg => (ho3.lts u hu g hg).2) (fun u hu g hg => by obtain rfl : u = u4 := (by simpa using hu); exact (ho4.lt g hg).1); have hg14 := gb_trans hg13 hg4; have Bb4 := Bb3.grown hg4 (by simp); have Br4 := Br3.grown hg4 (by simp); have y0 := Bb4.cell 0; have r0 := Br4.cell 0; have r1 := Br4.cell 1; have r2 := Br4.cell 2; have q0 := Br4.frozen 0; have q1 := Br4.frozen 1; have q2 := Br4.frozen 2; have ho4b := ho4.low hg13.size; have ho3c := ho3b.new hg4; obtain ⟨A6, n6, c6, rfl⟩ := ho4.ri.val))
  all_goals
    go_wp2_with fail
    refine bodyPost_ret (v := .agg #[.int .i64 e.kind, .slice A5 n5 c5, .slice A6 n6 c6]) (by simp [results, Try.results130, go_sem, r0, r1, r2]) rfl ?_
    have hst := gb_set3 w4 R (.int .i64 e.kind) (.slice A5 n5 c5) (.slice A6 n6 c6)
    have hne : NotE w4 3 (some R) := NotE.blk Br4 (by decide)
    have hne2 : NotE w4 27 (some R) := NotE.blk Br4 (by decide)
    exact ⟨_, _, _, rfl, ⟨_, rfl, ho3c.grown hst hne hne2, ho4b.grown hst hne⟩, hap4, gb_new hg14 hst (fun g e => by cases e; exact .inl hR)⟩
end Go.Proofs.Ytjlnhijabdkagaa
