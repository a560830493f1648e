/- Walks: spec.l33At, spec.CacheValid, impl's Entry.isOf, Entry.right. · Walks: impl.CacheValid, CacheFind of both. -/
import Derived.Test.YtjlnhijabdkagaaS5Same
import Derived.Test.YtjlnhijabdkagaaS3Run
import Derived.Test.YtjlnhijabdkagaaS4Run
import Derived.Test.YtjlnhijabdkagaaA14Cache
import Derived.Test.YtjlnhijabdkagaaA9Deep
namespace Go.Proofs.Ytjlnhijabdkagaa
open Go.RowKit

set_option maxRecDepth 20000 in
theorem l33At_any (v rv : Value) (es : List Ent) (kind : Int) (rows : List (List Int)) (w : World) (h : RE w v es) (hr : RL w rv rows) :
    Calls Try.prog 86 #[v, .int .i64 kind, rv] w fun e w' => e = .returned (.int .i64 (cacheAt es kind rows)) ∧ w.grownBy w' none := by
  obtain ⟨A, n, c, rfl, _, hn, hnx⟩ := h.form'
  obtain ⟨Ar, nr, cr, rfl⟩ := hr.val
  have Hn := Lib.hid hn
  clear hn
  go_enter Try.func86, Try.ntmps86
  go_wp2_with fail
  go_loopg [7] (n + 1) (fun mm i wr => ∃ k : Nat, k ≤ n ∧ mm = n + 1 - k ∧ i = .int .i64 k ∧ Hid ((es.take k).any (entIs kind rows) = false) ∧ w.grownBy wr none)
  case atStart => exact ⟨0, Nat.zero_le _, rfl, rfl, by show _ = _; simp, gb_refl _ _⟩
  case round =>
    obtain ⟨k, hk, rfl, rfl, Hk, hg⟩ := hrel
    by_cases hlt : k < n
    · obtain ⟨g, o, e, B1, n1, c1, B2, n2, c2, rfl, he, d0, d1, d2, hrows, hout⟩ := (h.new hg).at_ hlt
      have hr2 := hr.new hg
      have He := Lib.hid he
      clear he d2
      by_cases hkk : e.kind = kind
      · have hb1 : (e.kind == kind) = true := by simpa using hkk
        by_cases hrr : e.rows = rows
        · have Hr : Hid (cacheAt es kind rows = (k : Int)) := cacheAt_found Hk.out He.out (entIs_iff.2 ⟨hkk, hrr⟩)
          have Hq : Hid (decide (e.rows = rows) = true) := by show _ = _; simpa using hrr
          clear hkk hrr Hk
          go_wp2_with fail
          refine (l33Same_b _ _ e.rows rows _ hrows hr2 Hq.out).mono ?_
          rintro e' w2 ⟨rfl, hg2⟩
          go_wp2_with fail
          go_ret
          exact ⟨by rw [Hr.out]; rfl, gb_trans hg hg2⟩
        · have Hk2 : Hid ((es.take (k + 1)).any (entIs kind rows) = false) := by
            show _ = _
            rw [any_snoc He.out, Hk.out]
            simp [entIs, hrr]
          have Hq : Hid (decide (e.rows = rows) = false) := by show _ = _; simpa using hrr
          clear hkk hrr Hk
          go_wp2_with fail
          refine (l33Same_b _ _ e.rows rows _ hrows hr2 Hq.out).mono ?_
          rintro e' w2 ⟨rfl, hg2⟩
          go_wp2_with fail
          go_roundg (n + 1 - (k + 1))
          case measure => omega
          case rel => exact ⟨k + 1, by omega, rfl, by go_num, Hk2, gb_trans hg hg2⟩
      · have hb1 : (e.kind == kind) = false := by simpa using hkk
        have Hk2 : Hid ((es.take (k + 1)).any (entIs kind rows) = false) := by
          show _ = _
          rw [any_snoc He.out, Hk.out]
          simp [entIs, hkk]
        clear hkk Hk
        go_wp2_with fail
        go_roundg (n + 1 - (k + 1))
        case measure => omega
        case rel => exact ⟨k + 1, by omega, rfl, by go_num, Hk2, hg⟩
    · obtain rfl : k = n := by omega
      have Hr : Hid (cacheAt es kind rows = -1) := by
        refine cacheAt_none ?_
        have := Hk.out
        rwa [List.take_of_length_le (by rw [← Hn.out]; exact Nat.le_refl _)] at this
      clear Hk
      go_wp2_with fail
      go_ret
      exact ⟨by rw [Hr.out]; rfl, hg⟩
theorem isOf_b (rv ov rv2 : Value) (e : Ent) (kind : Int) (rows : List (List Int)) (w : World) (h : RL w rv e.rows) (ho : RI w ov e.out) (hr : RL w rv2 rows) {b : Bool} (hb : entIs kind rows e = b) :
    Calls Try.prog 83 #[.agg #[.int .i64 e.kind, rv, ov], .int .i64 kind, rv2] w fun r w' => r = .returned (.bool b) ∧ w.grownBy w' none := by
  obtain ⟨A1, n1, c1, rfl⟩ := h.val
  obtain ⟨A2, n2, c2, rfl⟩ := ho.val
  obtain ⟨A3, n3, c3, rfl⟩ := hr.val
  have Hb := Lib.hid hb
  clear hb
  by_cases hkk : e.kind = kind
  · have hb1 : (e.kind == kind) = true := by simpa using hkk
    have Hq : Hid (decide (e.rows = rows) = b) := by
      show _ = _
      rw [← Hb.out]
      simp [entIs, hkk]
    clear hkk
    go_enter Try.func83, Try.ntmps83
    go_wp2_with fail
    refine (sameLists_b _ _ e.rows rows _ (h.alloc _) (hr.alloc _) Hq.out).mono ?_
    rintro e' w2 ⟨rfl, hg2⟩
    go_wp2_with fail
    go_ret
    exact ⟨rfl, gb_trans (World.grownBy_alloc w _ none) hg2⟩
  · have hb1 : (e.kind == kind) = false := by simpa using hkk
    have Hq : Hid (b = false) := by
      show _ = _
      rw [← Hb.out]
      simp [entIs, hkk]
    clear hkk
    go_enter Try.func83, Try.ntmps83
    go_wp2_with fail
    go_ret
    exact ⟨by rw [Hq.out]; rfl, World.grownBy_alloc w _ none⟩
theorem right_b (rv ov : Value) (e : Ent) (w : World) (h : RL w rv e.rows) (ho : RI w ov e.out) {b : Bool} (hb : entRight e = b) :
    Calls Try.prog 82 #[.agg #[.int .i64 e.kind, rv, ov]] w fun r w' => r = .returned (.bool b) ∧ w.grownBy w' none := by
  obtain ⟨A1, n1, c1, rfl⟩ := h.val
  obtain ⟨A2, n2, c2, rfl⟩ := ho.val
  have Hb := Lib.hid hb
  have B0 : Blk (w.alloc (.cells #[.int .i64 e.kind, .slice A1 n1 c1, .slice A2 n2 c2] 62)) w.heap.size 62 #[.int .i64 e.kind, .slice A1 n1 c1, .slice A2 n2 c2] := Blk.new w _ _
  have hg0 := World.grownBy_alloc w (.cells #[.int .i64 e.kind, .slice A1 n1 c1, .slice A2 n2 c2] 62) none
  clear hb
  cases hr : kindRun e.kind e.rows with
  | none =>
    have Hq : Hid (b = false) := by
      show _ = _
      rw [← Hb.out]
      simp [entRight, hr]
    have Hkr := Lib.hid hr
    clear hr
    go_enter Try.func82, Try.ntmps82
    go_wp2_with fail
    refine (implKindRun_any e.kind _ e.rows _ (h.alloc _)).mono ?_
    rw [Hkr.out]
    rintro e' w2 ⟨u, rfl, hu, hg2⟩
    obtain ⟨A4, n4, c4, rfl⟩ := hu.ri.val
    go_wp2_with fail
    go_ret
    exact ⟨by rw [Hq.out]; rfl, gb_trans hg0 hg2⟩
  | some r =>
    have Hq : Hid (decide (r = e.out) = b) := by
      show _ = _
      rw [← Hb.out]
      simp [entRight, hr]
    have Hkr := Lib.hid hr
    clear hr
    go_enter Try.func82, Try.ntmps82
    go_wp2_with fail
    refine (implKindRun_any e.kind _ e.rows _ (h.alloc _)).mono ?_
    rw [Hkr.out]
    rintro e' w2 ⟨u, rfl, hu, hg2⟩
    have hru : RI w2 u r := hu.ri
    obtain ⟨A4, n4, c4, rfl⟩ := hu.ri.val
    have hg3 := gb_trans hg0 hg2
    have k2 := (B0.grown hg2 (by simp)).cell 2
    go_wp2_with fail
    refine (sEqual_b _ _ r e.out _ hru (ho.new hg3) Hq.out).mono ?_
    rintro e' w3 ⟨rfl, hg4⟩
    go_wp2_with fail
    go_ret
    exact ⟨rfl, gb_trans hg3 hg4⟩
set_option maxHeartbeats 800000 in
set_option maxRecDepth 20000 in
theorem specCacheValid_b (v : Value) (es : List Ent) (w : World) (h : RE w v es) {b : Bool} (hb : cacheValid es = b) :
    Calls Try.prog 43 #[v] w fun r w' => r = .returned (.bool b) ∧ w.grownBy w' none := by
  obtain ⟨A, n, c, rfl, _, hn, hnx⟩ := h.form'
  have Hn := Lib.hid hn
  have Hb := Lib.hid hb
  clear hn hb
  go_enter Try.func43, Try.ntmps43
  go_wp2_with fail
  go_loopg [3] (n + 1) (fun mm i wr => ∃ k : Nat, k ≤ n ∧ mm = n + 1 - k ∧ i = .int .i64 k ∧ Hid (entsTo es k = true) ∧ w.grownBy wr none)
  case atStart => exact ⟨0, Nat.zero_le _, rfl, rfl, by show _ = _; simp [entsTo], gb_refl _ _⟩
  case round =>
    obtain ⟨k, hk, rfl, rfl, Hk, hg⟩ := hrel
    by_cases hlt : k < n
    · obtain ⟨g, o, e, B1, n1, c1, B2, n2, c2, rfl, he, d0, d1, d2, hrows, hout⟩ := (h.new hg).at_ hlt
      have He := Lib.hid he
      clear he
      have B0 : Blk (wr.alloc (.cells #[.int .i64 e.kind, .slice B1 n1 c1, .slice B2 n2 c2] 62)) wr.heap.size 62 #[.int .i64 e.kind, .slice B1 n1 c1, .slice B2 n2 c2] := Blk.new wr _ _
      have hg0 := gb_trans hg (World.grownBy_alloc wr (.cells #[.int .i64 e.kind, .slice B1 n1 c1, .slice B2 n2 c2] 62) none)
      cases hr : kindRun e.kind e.rows with
      | none =>
        have Hq : Hid (b = false) := by
          show _ = _
          rw [← Hb.out]
          exact not_valid_at He.out (by simp [entRight, hr])
        have Hkr := Lib.hid hr
        clear hr
        go_wp2_with fail
        refine (specKindRun_any e.kind _ e.rows _ (hrows.alloc _)).mono ?_
        rw [Hkr.out]
        rintro e' w2 ⟨u, rfl, hu, hg2⟩
        obtain ⟨A4, n4, c4, rfl⟩ := hu.ri.val
        go_wp2_with fail
        go_ret
        exact ⟨by rw [Hq.out]; rfl, gb_trans hg0 hg2⟩
      | some r =>
        have Hkr := Lib.hid hr
        clear hr
        by_cases hro : r = e.out
        · have Hro : Hid (decide (r = e.out) = true) := by show _ = _; simpa using hro
          have Hrt : Hid (entRight e = true) := by show _ = _; simp [entRight, Hkr.out, hro]
          clear hro
          obtain ⟨z, hz⟩ : ∃ z, z = cacheAt es e.kind e.rows := ⟨_, rfl⟩
          have hlt2 := cacheAt_lt (k := e.kind) (rows := e.rows) ⟨e, He.out, entIs_iff.2 ⟨rfl, rfl⟩⟩
          rw [← hz] at hlt2
          have Hz := Lib.hid hz
          have Hlt2 := Lib.hid hlt2
          clear hz hlt2
          have s1 : Hid (∀ w2 u, w.grownBy w2 none → w2.cell? ⟨wr.heap.size, 0, none⟩ = u → True) := fun _ _ _ _ => trivial
          by_cases hzk : z < (k : Int)
          · have Hq : Hid (b = false) := by
              show _ = _
              rw [← Hb.out]
              refine not_valid_at He.out ?_
              rw [← Hlt2.out, decide_eq_true hzk]
              simp
            go_wp2_with fail
            refine (specKindRun_any e.kind _ e.rows _ (hrows.alloc _)).mono ?_
            rw [Hkr.out]
            rintro e' w2 ⟨u, rfl, hu, hg2⟩
            have hru : RI w2 u r := hu.ri
            obtain ⟨A4, n4, c4, rfl⟩ := hu.ri.val
            have hg3 := gb_trans hg0 hg2
            have B2' := B0.grown hg2 (by simp)
            have k2 := B2'.cell 2
            go_wp2_with fail
            refine (l13Same_b _ _ r e.out _ hru ((hout.alloc _).new hg2) Hro.out).mono ?_
            rintro e' w3 ⟨rfl, hg4⟩
            have hg5 := gb_trans hg3 hg4
            have B3 := B2'.grown hg4 (by simp)
            have k3 := B3.cell 0
            have k4 := B3.cell 1
            go_wp2_with fail
            refine (l33At_any _ _ es e.kind e.rows _ (h.new hg5) (((hrows.alloc _).new hg2).new hg4)).mono ?_
            rw [← Hz.out]
            rintro e' w4 ⟨rfl, hg6⟩
            go_wp2_with fail
            go_ret
            exact ⟨by rw [Hq.out]; rfl, gb_trans hg5 hg6⟩
          · have Hk2 : Hid (entsTo es (k + 1) = true) := by
              show _ = _
              rw [entsTo_succ He.out, Hk.out, Hrt.out, ← Hlt2.out, decide_eq_false hzk]
              rfl
            go_wp2_with fail
            refine (specKindRun_any e.kind _ e.rows _ (hrows.alloc _)).mono ?_
            rw [Hkr.out]
            rintro e' w2 ⟨u, rfl, hu, hg2⟩
            have hru : RI w2 u r := hu.ri
            obtain ⟨A4, n4, c4, rfl⟩ := hu.ri.val
            have hg3 := gb_trans hg0 hg2
            have B2' := B0.grown hg2 (by simp)
            have k2 := B2'.cell 2
            go_wp2_with fail
            refine (l13Same_b _ _ r e.out _ hru ((hout.alloc _).new hg2) Hro.out).mono ?_
            rintro e' w3 ⟨rfl, hg4⟩
            have hg5 := gb_trans hg3 hg4
            have B3 := B2'.grown hg4 (by simp)
            have k3 := B3.cell 0
            have k4 := B3.cell 1
            go_wp2_with fail
            refine (l33At_any _ _ es e.kind e.rows _ (h.new hg5) (((hrows.alloc _).new hg2).new hg4)).mono ?_
            rw [← Hz.out]
            rintro e' w4 ⟨rfl, hg6⟩
            go_wp2_with fail
            go_roundg (n + 1 - (k + 1))
            case measure => omega
            case rel => exact ⟨k + 1, by omega, rfl, by go_num, Hk2, gb_trans hg5 hg6⟩
        · have Hro : Hid (decide (r = e.out) = false) := by show _ = _; simpa using hro
          have Hq : Hid (b = false) := by
            show _ = _
            rw [← Hb.out]
            exact not_valid_at He.out (by simp [entRight, Hkr.out, hro])
          clear hro
          go_wp2_with fail
          refine (specKindRun_any e.kind _ e.rows _ (hrows.alloc _)).mono ?_
          rw [Hkr.out]
          rintro e' w2 ⟨u, rfl, hu, hg2⟩
          have hru : RI w2 u r := hu.ri
          obtain ⟨A4, n4, c4, rfl⟩ := hu.ri.val
          have hg3 := gb_trans hg0 hg2
          have k2 := (B0.grown hg2 (by simp)).cell 2
          go_wp2_with fail
          refine (l13Same_b _ _ r e.out _ hru ((hout.alloc _).new hg2) Hro.out).mono ?_
          rintro e' w3 ⟨rfl, hg4⟩
          go_wp2_with fail
          go_ret
          exact ⟨by rw [Hq.out]; rfl, gb_trans hg3 hg4⟩
    · obtain rfl : k = n := by omega
      have Hr : Hid (b = decide ((k : Int) ≤ 4)) := by
        show _ = _
        rw [← Hb.out]
        unfold cacheValid
        rw [← Hn.out, Hk.out, Bool.true_and]
        exact decide_eq_decide.2 (by omega)
      clear Hk
      go_wp2_with fail
      go_ret
      exact ⟨by rw [Hr.out]; rfl, hg⟩
end Go.Proofs.Ytjlnhijabdkagaa
namespace Go.Proofs.Ytjlnhijabdkagaa
open Go.RowKit

theorem RE.take {w : World} {es : List Ent} {g o n c k : Nat} (h : RE w (.slice (some ⟨g, o, none⟩) n c) es) (hk : k ≤ n) : RE w (.slice (some ⟨g, o, none⟩) k c) (es.take k) := by
  have hn := h.len
  obtain ⟨xs, h1, h2⟩ := h
  obtain ⟨hl, A, c', hv, hnc, hcm, hA, hc⟩ := h1
  injection hv with e1 e2 e3
  subst e1 e2 e3
  have hkl : (es.take k).length = k := by rw [List.length_take]; omega
  refine ⟨xs.take (k * 3), ?_, ?_⟩
  · rw [hkl]
    refine ⟨by rw [List.length_take]; omega, _, _, rfl, by omega, hcm, by simp, ?_⟩
    rcases Nat.eq_zero_or_pos k with h0 | h0
    · exact .inl h0
    · right
      rcases hc with hc | ⟨g', o', cur, e, hB, hcell⟩
      · omega
      · refine ⟨g', o', cur, e, hB, fun j u hj => hcell j u ?_⟩
        rw [List.getElem?_take] at hj
        split at hj
        · exact hj
        · cases hj
  · intro i e hi
    rw [List.getElem?_take] at hi
    split at hi
    · rename_i hik
      obtain ⟨r, u, k1, k2, k3, k4, k5⟩ := h2 i e hi
      refine ⟨r, u, ?_, ?_, ?_, k4, k5⟩
      · rw [List.getElem?_take, if_pos (by omega)]; exact k1
      · rw [List.getElem?_take, if_pos (by omega)]; exact k2
      · rw [List.getElem?_take, if_pos (by omega)]; exact k3
    · cases hi
/-- 'append(list, x...)' onto an own row. -/
theorem wp_extend_ints {ops : Array Oper} {rest : List Oper} {o : Oper} {a : Act} {Q : Exit → Act → World → Prop} {w : World}
    (s x : Operand) (t : TypeId) (ht : Try.prog.underlying t = some (.slice 3)) (hgd : o.guard = none) (ho : o.op = .call { callee := .builtin .append, args := #[s, x], argTypes := #[t, t] })
    {base : Nat} {v xv : Value} {l0 l : List Int} (hown : OwnI w base v l0) (hxv : RI w xv l) (hn : l0.length + l.length ≤ 1000000000) (hbase : base ≤ w.heap.size)
    (hs : a.eval s = v) (hx : a.eval x = xv)
    (h : ∀ v' w', OwnI w' base v' (l0 ++ l) → w.grownBy w' v.ownBlock → wpList Try.prog ops Q rest (a.put o.dst v') w') :
    wpList Try.prog ops Q (o :: rest) a w := by
  obtain ⟨i, hi, hz0, hz1, hz2⟩ := info_parts info3
  obtain ⟨A, c, e, hc, hcm, hcn⟩ := TS.form hxv
  subst e
  match A, hcn with
  | none, hcn =>
    obtain rfl := hcn rfl
    have hl0 : l = [] := List.eq_nil_of_length_eq_zero (by omega)
    subst hl0
    refine wpList_append_own_none hgd s x t ho base 3 i 1 ht hi v _ _ hs hown hx ?_
    rw [List.append_nil] at h
    exact h _ _ hown (gb_refl _ _)
  | some ad, hcn =>
    refine wpList_append_own _ hgd s x t ho base 3 i _ 1 8 ht hi hz0 hz1 hz2 rfl (by decide) v _ _ hs hown ad l.length c (l.map (.int .i64)) hx (by rw [List.length_map, Nat.mul_one]) ?_ (ints_one l) ?_ ?_ hbase ?_
    · intro j u hj
      have hjl := (List.getElem?_eq_some_iff.1 hj).1
      rw [List.length_map] at hjl
      obtain ⟨g, o', cur, e, _, hcell⟩ := TS.at_ hxv (by omega)
      have e2 : ad = ⟨g, o', none⟩ := Option.some.inj e
      rw [e2, Addr.add_lit]
      exact hcell j u hj
    · unfold maxLen; omega
    · omega
    · intro v' w' h1 h2 _
      refine h v' w' ?_ h2
      unfold OwnI
      simpa using h1
set_option maxHeartbeats 800000 in
set_option maxRecDepth 20000 in
theorem implCacheValid_b (v : Value) (es : List Ent) (w : World) (h : RE w v es) {b : Bool} (hb : cacheValid es = b) :
    Calls Try.prog 42 #[v] w fun r w' => r = .returned (.bool b) ∧ w.grownBy w' none := by
  obtain ⟨A, n, c, rfl, _, hn, hnx⟩ := h.form'
  have Hn := Lib.hid hn
  have Hb := Lib.hid hb
  clear hn hb
  by_cases hn4 : 4 < n
  · have Hq : Hid (b = false) := by
      show _ = _
      rw [← Hb.out]
      unfold cacheValid
      rw [Bool.and_eq_false_iff]
      right
      rw [decide_eq_false_iff_not, ← Hn.out]
      omega
    go_enter Try.func42, Try.ntmps42
    go_wp2_with fail
    go_ret
    exact ⟨by rw [Hq.out]; rfl, gb_refl _ _⟩
  · go_enter Try.func42, Try.ntmps42
    go_wp2_with fail
    go_loopg [12] (n + 1) (fun mm i wr => ∃ k : Nat, k ≤ n ∧ mm = n + 1 - k ∧ i = .int .i64 k ∧ Hid (entsTo es k = true) ∧ w.grownBy wr none)
    case atStart => exact ⟨0, Nat.zero_le _, rfl, rfl, by show _ = _; simp [entsTo], gb_refl _ _⟩
    case round =>
      obtain ⟨k, hk, rfl, rfl, Hk, hg⟩ := hrel
      by_cases hlt : k < n
      · obtain ⟨g, o, e, B1, n1, c1, B2, n2, c2, rfl, he, d0, d1, d2, hrows, hout⟩ := (h.new hg).at_ hlt
        have He := Lib.hid he
        clear he
        have B0 : Blk (wr.alloc (.cells #[.int .i64 e.kind, .slice B1 n1 c1, .slice B2 n2 c2] 62)) wr.heap.size 62 #[.int .i64 e.kind, .slice B1 n1 c1, .slice B2 n2 c2] := Blk.new wr _ _
        have hg0 := gb_trans hg (World.grownBy_alloc wr (.cells #[.int .i64 e.kind, .slice B1 n1 c1, .slice B2 n2 c2] 62) none)
        by_cases hrt : entRight e = true
        · have Hrt := Lib.hid hrt
          clear hrt
          go_wp2_with fail
          refine (right_b _ _ e _ (hrows.alloc _) (hout.alloc _) Hrt.out).mono ?_
          rintro e' w2 ⟨rfl, hg2⟩
          have hg3 := gb_trans hg0 hg2
          have B2' := B0.grown hg2 (by simp)
          have hrows2 := (hrows.alloc _).new hg2
          have hp := (h.new hg3).take (Nat.le_of_lt hlt)
          obtain ⟨pre, hpre⟩ : ∃ pre, pre = es.take k := ⟨_, rfl⟩
          rw [← hpre] at hp
          have Hpre := Lib.hid hpre
          have Hpl : Hid (k = pre.length) := by show _ = _; rw [hpre, List.length_take, ← Hn.out]; omega
          clear hpre B0 hg0 hg2 d0 d1 d2 hrows hout
          generalize wr.heap.size = xb at *
          obtain ⟨wo, rfl⟩ : ∃ wo : World, wo = w2 := ⟨_, rfl⟩
          go_wp2_with fail
          go_loopg [24] (k + 1) (fun mm i wx => ∃ t : Nat, t ≤ k ∧ mm = k + 1 - t ∧ i = .int .i64 t ∧ Hid ((pre.take t).any (entIs e.kind e.rows) = false) ∧ wo.grownBy wx none)
          case atStart => exact ⟨0, Nat.zero_le _, rfl, rfl, by show _ = _; simp, gb_refl _ _⟩
          case round =>
            obtain ⟨t, ht, rfl, rfl, Ht, hgx⟩ := hrel
            by_cases htk : t < k
            · obtain ⟨g', o', e', C1, m1, f1, C2, m2, f2, hA, he', x0, x1, x2, hrows', hout'⟩ := (hp.new hgx).at_ htk
              injection hA with hA
              injection hA with hA1 hA2 hA3
              subst hA1 hA2
              clear hA3
              have He' := Lib.hid he'
              clear he'
              have B3 := (B2'.grown hgx (by simp)).alloc (.cells #[.int .i64 e'.kind, .slice C1 m1 f1, .slice C2 m2 f2] 62)
              have k3 := B3.cell 0
              have k4 := B3.cell 1
              have hg4 := gb_trans hgx (World.grownBy_alloc wr (.cells #[.int .i64 e'.kind, .slice C1 m1 f1, .slice C2 m2 f2] 62) none)
              by_cases his : entIs e.kind e.rows e' = true
              · have His := Lib.hid his
                have Hq : Hid (b = false) := by
                  show _ = _
                  rw [← Hb.out]
                  refine not_valid_at He.out ?_
                  have : (es.take k).any (entIs e.kind e.rows) = true := by
                    rw [← Hpre.out, List.any_eq_true]
                    exact ⟨e', List.mem_of_getElem? He'.out, his⟩
                  rw [this]
                  simp
                clear his
                go_wp2_with fail
                refine (isOf_b _ _ _ e' e.kind e.rows _ (hrows'.alloc _) (hout'.alloc _) (hrows2.new hg4) His.out).mono ?_
                rintro r' w3 ⟨rfl, hg5⟩
                go_wp2_with fail
                go_ret
                exact ⟨by rw [Hq.out]; rfl, gb_trans hg3 (gb_trans hg4 hg5)⟩
              · have his' : entIs e.kind e.rows e' = false := by simpa using his
                have His := Lib.hid his'
                have Ht2 : Hid ((pre.take (t + 1)).any (entIs e.kind e.rows) = false) := by
                  show _ = _
                  rw [any_snoc He'.out, Ht.out, his']
                  rfl
                clear his his' Ht
                go_wp2_with fail
                refine (isOf_b _ _ _ e' e.kind e.rows _ (hrows'.alloc _) (hout'.alloc _) (hrows2.new hg4) His.out).mono ?_
                rintro r' w3 ⟨rfl, hg5⟩
                go_wp2_with fail
                go_roundg (k + 1 - (t + 1))
                case measure => omega
                case rel => exact ⟨t + 1, by omega, rfl, by go_num, Ht2, gb_trans hg4 hg5⟩
            · obtain rfl : t = k := by omega
              have Hk2 : Hid (entsTo es (t + 1) = true) := by
                show _ = _
                have := Ht.out
                rw [List.take_of_length_le (by rw [← Hpl.out]; exact Nat.le_refl _), Hpre.out] at this
                rw [entsTo_succ He.out, Hk.out, Hrt.out, this]
                rfl
              clear Ht Hk
              go_wp2_with fail
              go_roundg (n + 1 - (t + 1))
              case measure => omega
              case rel => exact ⟨t + 1, by omega, rfl, by go_num, Hk2, gb_trans hg3 hgx⟩
        · have hrt' : entRight e = false := by simpa using hrt
          have Hq : Hid (b = false) := by
            show _ = _
            rw [← Hb.out]
            refine not_valid_at He.out ?_
            rw [hrt']
            rfl
          have Hrt := Lib.hid hrt'
          clear hrt hrt'
          go_wp2_with fail
          refine (right_b _ _ e _ (hrows.alloc _) (hout.alloc _) Hrt.out).mono ?_
          rintro e' w2 ⟨rfl, hg2⟩
          go_wp2_with fail
          go_ret
          exact ⟨by rw [Hq.out]; rfl, gb_trans hg0 hg2⟩
      · obtain rfl : k = n := by omega
        have Hr : Hid (b = true) := by
          show _ = _
          rw [← Hb.out]
          unfold cacheValid
          rw [← Hn.out, Hk.out, Bool.true_and, decide_eq_true_eq]
          omega
        clear Hk
        go_wp2_with fail
        go_ret
        exact ⟨by rw [Hr.out]; rfl, hg⟩
set_option maxHeartbeats 800000 in
set_option maxRecDepth 20000 in
theorem implCacheFind_any (v rv : Value) (es : List Ent) (kind : Int) (rows : List (List Int)) (w : World) (h : RE w v es) (hr : RL w rv rows) :
    Calls Try.prog 49 #[v, .int .i64 kind, rv] w (RowOut w (cacheFind es kind rows)) := by
  obtain ⟨A, n, c, rfl, _, hn, hnx⟩ := h.form'
  obtain ⟨Ar, nr, cr, rfl⟩ := hr.val
  have Hn := Lib.hid hn
  clear hn
  by_cases hv : cacheValid es = true
  · have Hv := Lib.hid hv
    clear hv
    go_enter Try.func49, Try.ntmps49
    go_wp2_with fail
    refine (implCacheValid_b _ es _ h Hv.out).mono ?_
    rintro e' w1 ⟨rfl, hg1⟩
    go_wp2_with fail
    go_loopg [15] (n + 1) (fun mm i wr => ∃ k : Nat, k ≤ n ∧ mm = n + 1 - k ∧ i = .int .i64 k ∧ Hid ((es.take k).any (entIs kind rows) = false) ∧ w.grownBy wr none)
    case atStart => exact ⟨0, Nat.zero_le _, rfl, rfl, by show _ = _; simp, hg1⟩
    case round =>
      clear hg1
      obtain ⟨k, hk, rfl, rfl, Hk, hg⟩ := hrel
      by_cases hlt : k < n
      · obtain ⟨g, o, e, B1, n1, c1, B2, n2, c2, rfl, he, d0, d1, d2, hrows, hout⟩ := (h.new hg).at_ hlt
        have He := Lib.hid he
        have B0 : Blk (wr.alloc (.cells #[.int .i64 e.kind, .slice B1 n1 c1, .slice B2 n2 c2] 62)) wr.heap.size 62 #[.int .i64 e.kind, .slice B1 n1 c1, .slice B2 n2 c2] := Blk.new wr _ _
        have hg0 := gb_trans hg (World.grownBy_alloc wr (.cells #[.int .i64 e.kind, .slice B1 n1 c1, .slice B2 n2 c2] 62) none)
        clear he
        by_cases his : entIs kind rows e = true
        · have His := Lib.hid his
          have Hr : Hid (cacheFind es kind rows = some e.out) := cacheFind_some Hv.out Hk.out He.out his
          have Hol : Hid (e.out.length ≤ 1000000000) := by
            have h1 := (valid_iff.1 Hv.out).2.1 e (List.mem_of_getElem? He.out)
            have h2 : kindRun e.kind e.rows = some e.out := by simpa [entRight] using h1
            have := rowValid_len (kindRun_valid h2).1
            show _ ≤ _
            omega
          clear his Hk
          go_wp2_with fail
          refine (isOf_b _ _ _ e kind rows _ (hrows.alloc _) (hout.alloc _) (hr.new hg0) His.out).mono ?_
          rintro e' w2 ⟨rfl, hg2⟩
          have k2 := (B0.grown hg2 (by simp)).cell 2
          have hg3 := gb_trans hg0 hg2
          go_wp2_with fail
          refine (copyInts_any _ e.out _ ((hout.alloc _).new hg2) Hol.out).mono ?_
          rintro e' w3 ⟨u, rfl, ho, hg4⟩
          obtain ⟨A4, n4, c4, rfl⟩ := ho.ri.val
          go_wp2_with fail
          go_ret2
          exact ⟨_, by rw [Hr.out]; rfl, by rw [Hr.out]; exact ho.low hg3.size, gb_trans hg3 hg4⟩
        · have his' : entIs kind rows e = false := by simpa using his
          have His := Lib.hid his'
          have Hk2 : Hid ((es.take (k + 1)).any (entIs kind rows) = false) := by
            show _ = _
            rw [any_snoc He.out, Hk.out, his']
            rfl
          clear his his' Hk
          go_wp2_with fail
          refine (isOf_b _ _ _ e kind rows _ (hrows.alloc _) (hout.alloc _) (hr.new hg0) His.out).mono ?_
          rintro e' w2 ⟨rfl, hg2⟩
          go_wp2_with fail
          go_roundg (n + 1 - (k + 1))
          case measure => omega
          case rel => exact ⟨k + 1, by omega, rfl, by go_num, Hk2, gb_trans hg0 hg2⟩
      · obtain rfl : k = n := by omega
        have Hr : Hid (cacheFind es kind rows = none) := by
          refine cacheFind_none ?_
          have := Hk.out
          rwa [List.take_of_length_le (by rw [← Hn.out]; exact Nat.le_refl _)] at this
        clear Hk
        go_wp2_with fail
        go_ret2
        exact ⟨_, by rw [Hr.out]; rfl, by rw [Hr.out]; exact OwnI.nil _ _, hg⟩
  · have hv' : cacheValid es = false := by simpa using hv
    have Hv := Lib.hid hv'
    have Hr : Hid (cacheFind es kind rows = none) := cacheFind_bad hv'
    clear hv hv'
    go_enter Try.func49, Try.ntmps49
    go_wp2_with fail
    refine (implCacheValid_b _ es _ h Hv.out).mono ?_
    rintro e' w1 ⟨rfl, hg1⟩
    go_wp2_with fail
    go_ret2
    exact ⟨_, by rw [Hr.out]; rfl, by rw [Hr.out]; exact OwnI.nil _ _, hg1⟩
set_option maxHeartbeats 800000 in
set_option maxRecDepth 20000 in
theorem specCacheFind_any (v rv : Value) (es : List Ent) (kind : Int) (rows : List (List Int)) (w : World) (h : RE w v es) (hr : RL w rv rows) :
    Calls Try.prog 50 #[v, .int .i64 kind, rv] w (RowOut w (cacheFind es kind rows)) := by
  obtain ⟨A, n, c, rfl, _, hn, hnx⟩ := h.form'
  obtain ⟨Ar, nr, cr, rfl⟩ := hr.val
  have Hn := Lib.hid hn
  clear hn
  obtain ⟨z, hz⟩ : ∃ z, z = cacheAt es kind rows := ⟨_, rfl⟩
  have Hz := Lib.hid hz
  clear hz
  by_cases hv : cacheValid es = true
  · have Hv := Lib.hid hv
    clear hv
    cases hi : es.findIdx? (entIs kind rows) with
    | none =>
      obtain rfl : z = -1 := by rw [Hz.out]; unfold cacheAt; rw [hi]
      have Hr : Hid (cacheFind es kind rows = none) := by
        refine cacheFind_none ?_
        rw [List.findIdx?_eq_none_iff] at hi
        rw [List.any_eq_false]
        intro x hx
        simp [hi x hx]
      clear hi
      go_enter Try.func50, Try.ntmps50
      go_wp2_with fail
      refine (l33At_any _ _ es kind rows _ h hr).mono ?_
      rw [← Hz.out]
      rintro e' w1 ⟨rfl, hg1⟩
      go_wp2_with fail
      refine (specCacheValid_b _ es _ (h.new hg1) Hv.out).mono ?_
      rintro e' w2 ⟨rfl, hg2⟩
      have hg3 := gb_trans hg1 hg2
      go_wp2_with fail
      go_ret2
      exact ⟨_, by rw [Hr.out]; rfl, by rw [Hr.out]; exact OwnI.empty w2 hg3.size, gb_trans hg3 (World.grownBy_alloc w2 _ none)⟩
    | some k =>
      obtain ⟨hkl, hm, hbefore⟩ := List.findIdx?_eq_some_iff_getElem.1 hi
      obtain rfl : z = (k : Int) := by rw [Hz.out]; unfold cacheAt; rw [hi]
      have hlt : k < n := by rw [Hn.out]; exact hkl
      have Hr : Hid (cacheFind es kind rows = some es[k].out) := by
        refine cacheFind_some Hv.out ?_ (List.getElem?_eq_getElem hkl) hm
        rw [List.any_eq_false]
        intro x hx
        rw [List.mem_take_iff_getElem] at hx
        obtain ⟨j, hj, rfl⟩ := hx
        exact hbefore j (by omega)
      have Hol : Hid (es[k].out.length ≤ 100) := by
        have h1 := (valid_iff.1 Hv.out).2.1 es[k] (List.getElem_mem hkl)
        have h2 : kindRun es[k].kind es[k].rows = some es[k].out := by simpa [entRight] using h1
        have := rowValid_len (kindRun_valid h2).1
        show _ ≤ _
        omega
      obtain ⟨e, he⟩ : ∃ e, e = es[k] := ⟨_, rfl⟩
      rw [← he] at Hr Hol
      have He : Hid (es[k]? = some e) := by show _ = _; rw [he, List.getElem?_eq_getElem hkl]
      clear hi hkl hm hbefore he
      go_enter Try.func50, Try.ntmps50
      go_wp2_with fail
      refine (l33At_any _ _ es kind rows _ h hr).mono ?_
      rw [← Hz.out]
      rintro e' w1 ⟨rfl, hg1⟩
      go_wp2_with fail
      refine (specCacheValid_b _ es _ (h.new hg1) Hv.out).mono ?_
      rintro e' w2 ⟨rfl, hg2⟩
      have hg3 := gb_trans hg1 hg2
      obtain ⟨g, o, e2, B1, n1, c1, B2, n2, c2, rfl, he2, d0, d1, d2, hrows, hout⟩ := ((h.new hg3).alloc (.cells #[] 3)).at_ hlt
      obtain rfl : e = e2 := by
        rw [He.out] at he2
        injection he2
      clear he2 d0 d1 hrows
      have hgE := gb_trans hg3 (World.grownBy_alloc w2 (.cells #[] 3) none)
      have hE := OwnI.empty w2 hg3.size
      go_wp2_with (at_builtin; go_must (refine wp_extend_ints (.tmp 21) (.tmp 26) 27 Try.underlying27 rfl rfl hE hout (by have := Hol.out; simp; omega) hgE.size rfl rfl ?_))
      intro v' w3 ho hg4
      have hg5 := hE.gb hgE hg4 (Nat.le_refl _)
      obtain ⟨A4, n4, c4, rfl⟩ := ho.ri.val
      go_wp2_with fail
      go_ret2
      exact ⟨_, by rw [Hr.out]; rfl, by rw [Hr.out]; exact ho, hg5⟩
  · have hv' : cacheValid es = false := by simpa using hv
    have Hv := Lib.hid hv'
    have Hr : Hid (cacheFind es kind rows = none) := cacheFind_bad hv'
    clear hv hv'
    go_enter Try.func50, Try.ntmps50
    go_wp2_with fail
    refine (l33At_any _ _ es kind rows _ h hr).mono ?_
    rw [← Hz.out]
    rintro e' w1 ⟨rfl, hg1⟩
    go_wp2_with fail
    refine (specCacheValid_b _ es _ (h.new hg1) Hv.out).mono ?_
    rintro e' w2 ⟨rfl, hg2⟩
    have hg3 := gb_trans hg1 hg2
    go_wp2_with fail
    go_ret2
    exact ⟨_, by rw [Hr.out]; rfl, by rw [Hr.out]; exact OwnI.empty w2 hg3.size, gb_trans hg3 (World.grownBy_alloc w2 _ none)⟩
end Go.Proofs.Ytjlnhijabdkagaa
