/- Walks: spec.l33At, spec.CacheValid, impl's Entry.isOf, Entry.right. -/
import Derived.Test.YtjlnhijabdkagaaS5Same
import Derived.Test.YtjlnhijabdkagaaS3Run
import Derived.Test.YtjlnhijabdkagaaS4Run
import Derived.Test.YtjlnhijabdkagaaA13Cache
namespace Go.Proofs.Ytjlnhijabdkagaa
open Go.RowKit

set_option maxRecDepth 20000 in
theorem l33At_any (v rv : Value) (es : List Ent) (kind : Int) (rows : List (List Int)) (w : World) (h : RE w v es) (hr : RL w rv rows) :
    Calls Try.prog 86 #[v, .int .i64 kind, rv] w fun e w' => e = .returned (.int .i64 (cacheAt es kind rows)) ∧ w.grownBy w' none := by
  obtain ⟨A, n, c, rfl, _, hn, hnx⟩ := h.form'
  obtain ⟨Ar, nr, cr, rfl⟩ := hr.val
  have Hn := Lib.hid hn
  clear hn
  go_enter Try.func86, Try.ntmps86
  go_wp2_with fail
  go_loopg [7] (n + 1) (fun mm i wr => ∃ k : Nat, k ≤ n ∧ mm = n + 1 - k ∧ i = .int .i64 k ∧ Hid ((es.take k).any (entIs kind rows) = false) ∧ w.grownBy wr none)
  case atStart => exact ⟨0, Nat.zero_le _, rfl, rfl, by show _ = _; simp, gb_refl _ _⟩
  case round =>
    obtain ⟨k, hk, rfl, rfl, Hk, hg⟩ := hrel
    by_cases hlt : k < n
    · obtain ⟨g, o, e, B1, n1, c1, B2, n2, c2, rfl, he, d0, d1, d2, hrows, hout⟩ := (h.new hg).at_ hlt
      have hr2 := hr.new hg
      have He := Lib.hid he
      clear he d2
      by_cases hkk : e.kind = kind
      · have hb1 : (e.kind == kind) = true := by simpa using hkk
        by_cases hrr : e.rows = rows
        · have Hr : Hid (cacheAt es kind rows = (k : Int)) := cacheAt_found Hk.out He.out (entIs_iff.2 ⟨hkk, hrr⟩)
          have Hq : Hid (decide (e.rows = rows) = true) := by show _ = _; simpa using hrr
          clear hkk hrr Hk
          go_wp2_with fail
          refine (l33Same_b _ _ e.rows rows _ hrows hr2 Hq.out).mono ?_
          rintro e' w2 ⟨rfl, hg2⟩
          go_wp2_with fail
          go_ret
          exact ⟨by rw [Hr.out]; rfl, gb_trans hg hg2⟩
        · have Hk2 : Hid ((es.take (k + 1)).any (entIs kind rows) = false) := by
            show _ = _
            rw [any_snoc He.out, Hk.out]
            simp [entIs, hrr]
          have Hq : Hid (decide (e.rows = rows) = false) := by show _ = _; simpa using hrr
          clear hkk hrr Hk
          go_wp2_with fail
          refine (l33Same_b _ _ e.rows rows _ hrows hr2 Hq.out).mono ?_
          rintro e' w2 ⟨rfl, hg2⟩
          go_wp2_with fail
          go_roundg (n + 1 - (k + 1))
          case measure => omega
          case rel => exact ⟨k + 1, by omega, rfl, by go_num, Hk2, gb_trans hg hg2⟩
      · have hb1 : (e.kind == kind) = false := by simpa using hkk
        have Hk2 : Hid ((es.take (k + 1)).any (entIs kind rows) = false) := by
          show _ = _
          rw [any_snoc He.out, Hk.out]
          simp [entIs, hkk]
        clear hkk Hk
        go_wp2_with fail
        go_roundg (n + 1 - (k + 1))
        case measure => omega
        case rel => exact ⟨k + 1, by omega, rfl, by go_num, Hk2, hg⟩
    · obtain rfl : k = n := by omega
      have Hr : Hid (cacheAt es kind rows = -1) := by
        refine cacheAt_none ?_
        have := Hk.out
        rwa [List.take_of_length_le (by rw [← Hn.out]; exact Nat.le_refl _)] at this
      clear Hk
      go_wp2_with fail
      go_ret
      exact ⟨by rw [Hr.out]; rfl, hg⟩
theorem isOf_b (rv ov rv2 : Value) (e : Ent) (kind : Int) (rows : List (List Int)) (w : World) (h : RL w rv e.rows) (ho : RI w ov e.out) (hr : RL w rv2 rows) {b : Bool} (hb : entIs kind rows e = b) :
    Calls Try.prog 83 #[.agg #[.int .i64 e.kind, rv, ov], .int .i64 kind, rv2] w fun r w' => r = .returned (.bool b) ∧ w.grownBy w' none := by
  obtain ⟨A1, n1, c1, rfl⟩ := h.val
  obtain ⟨A2, n2, c2, rfl⟩ := ho.val
  obtain ⟨A3, n3, c3, rfl⟩ := hr.val
  have Hb := Lib.hid hb
  clear hb
  by_cases hkk : e.kind = kind
  · have hb1 : (e.kind == kind) = true := by simpa using hkk
    have Hq : Hid (decide (e.rows = rows) = b) := by
      show _ = _
      rw [← Hb.out]
      simp [entIs, hkk]
    clear hkk
    go_enter Try.func83, Try.ntmps83
    go_wp2_with fail
    refine (sameLists_b _ _ e.rows rows _ (h.alloc _) (hr.alloc _) Hq.out).mono ?_
    rintro e' w2 ⟨rfl, hg2⟩
    go_wp2_with fail
    go_ret
    exact ⟨rfl, gb_trans (World.grownBy_alloc w _ none) hg2⟩
  · have hb1 : (e.kind == kind) = false := by simpa using hkk
    have Hq : Hid (b = false) := by
      show _ = _
      rw [← Hb.out]
      simp [entIs, hkk]
    clear hkk
    go_enter Try.func83, Try.ntmps83
    go_wp2_with fail
    go_ret
    exact ⟨by rw [Hq.out]; rfl, World.grownBy_alloc w _ none⟩
theorem right_b (rv ov : Value) (e : Ent) (w : World) (h : RL w rv e.rows) (ho : RI w ov e.out) {b : Bool} (hb : entRight e = b) :
    Calls Try.prog 82 #[.agg #[.int .i64 e.kind, rv, ov]] w fun r w' => r = .returned (.bool b) ∧ w.grownBy w' none := by
  obtain ⟨A1, n1, c1, rfl⟩ := h.val
  obtain ⟨A2, n2, c2, rfl⟩ := ho.val
  have Hb := Lib.hid hb
  have B0 : Blk (w.alloc (.cells #[.int .i64 e.kind, .slice A1 n1 c1, .slice A2 n2 c2] 62)) w.heap.size 62 #[.int .i64 e.kind, .slice A1 n1 c1, .slice A2 n2 c2] := Blk.new w _ _
  have hg0 := World.grownBy_alloc w (.cells #[.int .i64 e.kind, .slice A1 n1 c1, .slice A2 n2 c2] 62) none
  clear hb
  cases hr : kindRun e.kind e.rows with
  | none =>
    have Hq : Hid (b = false) := by
      show _ = _
      rw [← Hb.out]
      simp [entRight, hr]
    have Hkr := Lib.hid hr
    clear hr
    go_enter Try.func82, Try.ntmps82
    go_wp2_with fail
    refine (implKindRun_any e.kind _ e.rows _ (h.alloc _)).mono ?_
    rw [Hkr.out]
    rintro e' w2 ⟨u, rfl, hu, hg2⟩
    obtain ⟨A4, n4, c4, rfl⟩ := hu.ri.val
    go_wp2_with fail
    go_ret
    exact ⟨by rw [Hq.out]; rfl, gb_trans hg0 hg2⟩
  | some r =>
    have Hq : Hid (decide (r = e.out) = b) := by
      show _ = _
      rw [← Hb.out]
      simp [entRight, hr]
    have Hkr := Lib.hid hr
    clear hr
    go_enter Try.func82, Try.ntmps82
    go_wp2_with fail
    refine (implKindRun_any e.kind _ e.rows _ (h.alloc _)).mono ?_
    rw [Hkr.out]
    rintro e' w2 ⟨u, rfl, hu, hg2⟩
    have hru : RI w2 u r := hu.ri
    obtain ⟨A4, n4, c4, rfl⟩ := hu.ri.val
    have hg3 := gb_trans hg0 hg2
    have k2 := (B0.grown hg2 (by simp)).cell 2
    go_wp2_with fail
    refine (sEqual_b _ _ r e.out _ hru (ho.new hg3) Hq.out).mono ?_
    rintro e' w3 ⟨rfl, hg4⟩
    go_wp2_with fail
    go_ret
    exact ⟨rfl, gb_trans hg3 hg4⟩
set_option maxHeartbeats 800000 in
set_option maxRecDepth 20000 in
theorem specCacheValid_b (v : Value) (es : List Ent) (w : World) (h : RE w v es) {b : Bool} (hb : cacheValid es = b) :
    Calls Try.prog 43 #[v] w fun r w' => r = .returned (.bool b) ∧ w.grownBy w' none := by
  obtain ⟨A, n, c, rfl, _, hn, hnx⟩ := h.form'
  have Hn := Lib.hid hn
  have Hb := Lib.hid hb
  clear hn hb
  go_enter Try.func43, Try.ntmps43
  go_wp2_with fail
  go_loopg [3] (n + 1) (fun mm i wr => ∃ k : Nat, k ≤ n ∧ mm = n + 1 - k ∧ i = .int .i64 k ∧ Hid (entsTo es k = true) ∧ w.grownBy wr none)
  case atStart => exact ⟨0, Nat.zero_le _, rfl, rfl, by show _ = _; simp [entsTo], gb_refl _ _⟩
  case round =>
    obtain ⟨k, hk, rfl, rfl, Hk, hg⟩ := hrel
    by_cases hlt : k < n
    · obtain ⟨g, o, e, B1, n1, c1, B2, n2, c2, rfl, he, d0, d1, d2, hrows, hout⟩ := (h.new hg).at_ hlt
      have He := Lib.hid he
      clear he
      have B0 : Blk (wr.alloc (.cells #[.int .i64 e.kind, .slice B1 n1 c1, .slice B2 n2 c2] 62)) wr.heap.size 62 #[.int .i64 e.kind, .slice B1 n1 c1, .slice B2 n2 c2] := Blk.new wr _ _
      have hg0 := gb_trans hg (World.grownBy_alloc wr (.cells #[.int .i64 e.kind, .slice B1 n1 c1, .slice B2 n2 c2] 62) none)
      cases hr : kindRun e.kind e.rows with
      | none =>
        have Hq : Hid (b = false) := by
          show _ = _
          rw [← Hb.out]
          exact not_valid_at He.out (by simp [entRight, hr])
        have Hkr := Lib.hid hr
        clear hr
        go_wp2_with fail
        refine (specKindRun_any e.kind _ e.rows _ (hrows.alloc _)).mono ?_
        rw [Hkr.out]
        rintro e' w2 ⟨u, rfl, hu, hg2⟩
        obtain ⟨A4, n4, c4, rfl⟩ := hu.ri.val
        go_wp2_with fail
        go_ret
        exact ⟨by rw [Hq.out]; rfl, gb_trans hg0 hg2⟩
      | some r =>
        have Hkr := Lib.hid hr
        clear hr
        by_cases hro : r = e.out
        · have Hro : Hid (decide (r = e.out) = true) := by show _ = _; simpa using hro
          have Hrt : Hid (entRight e = true) := by show _ = _; simp [entRight, Hkr.out, hro]
          clear hro
          obtain ⟨z, hz⟩ : ∃ z, z = cacheAt es e.kind e.rows := ⟨_, rfl⟩
          have hlt2 := cacheAt_lt (k := e.kind) (rows := e.rows) ⟨e, He.out, entIs_iff.2 ⟨rfl, rfl⟩⟩
          rw [← hz] at hlt2
          have Hz := Lib.hid hz
          have Hlt2 := Lib.hid hlt2
          clear hz hlt2
          have s1 : Hid (∀ w2 u, w.grownBy w2 none → w2.cell? ⟨wr.heap.size, 0, none⟩ = u → True) := fun _ _ _ _ => trivial
          by_cases hzk : z < (k : Int)
          · have Hq : Hid (b = false) := by
              show _ = _
              rw [← Hb.out]
              refine not_valid_at He.out ?_
              rw [← Hlt2.out, decide_eq_true hzk]
              simp
            go_wp2_with fail
            refine (specKindRun_any e.kind _ e.rows _ (hrows.alloc _)).mono ?_
            rw [Hkr.out]
            rintro e' w2 ⟨u, rfl, hu, hg2⟩
            have hru : RI w2 u r := hu.ri
            obtain ⟨A4, n4, c4, rfl⟩ := hu.ri.val
            have hg3 := gb_trans hg0 hg2
            have B2' := B0.grown hg2 (by simp)
            have k2 := B2'.cell 2
            go_wp2_with fail
            refine (l13Same_b _ _ r e.out _ hru ((hout.alloc _).new hg2) Hro.out).mono ?_
            rintro e' w3 ⟨rfl, hg4⟩
            have hg5 := gb_trans hg3 hg4
            have B3 := B2'.grown hg4 (by simp)
            have k3 := B3.cell 0
            have k4 := B3.cell 1
            go_wp2_with fail
            refine (l33At_any _ _ es e.kind e.rows _ (h.new hg5) (((hrows.alloc _).new hg2).new hg4)).mono ?_
            rw [← Hz.out]
            rintro e' w4 ⟨rfl, hg6⟩
            go_wp2_with fail
            go_ret
            exact ⟨by rw [Hq.out]; rfl, gb_trans hg5 hg6⟩
          · have Hk2 : Hid (entsTo es (k + 1) = true) := by
              show _ = _
              rw [entsTo_succ He.out, Hk.out, Hrt.out, ← Hlt2.out, decide_eq_false hzk]
              rfl
            go_wp2_with fail
            refine (specKindRun_any e.kind _ e.rows _ (hrows.alloc _)).mono ?_
            rw [Hkr.out]
            rintro e' w2 ⟨u, rfl, hu, hg2⟩
            have hru : RI w2 u r := hu.ri
            obtain ⟨A4, n4, c4, rfl⟩ := hu.ri.val
            have hg3 := gb_trans hg0 hg2
            have B2' := B0.grown hg2 (by simp)
            have k2 := B2'.cell 2
            go_wp2_with fail
            refine (l13Same_b _ _ r e.out _ hru ((hout.alloc _).new hg2) Hro.out).mono ?_
            rintro e' w3 ⟨rfl, hg4⟩
            have hg5 := gb_trans hg3 hg4
            have B3 := B2'.grown hg4 (by simp)
            have k3 := B3.cell 0
            have k4 := B3.cell 1
            go_wp2_with fail
            refine (l33At_any _ _ es e.kind e.rows _ (h.new hg5) (((hrows.alloc _).new hg2).new hg4)).mono ?_
            rw [← Hz.out]
            rintro e' w4 ⟨rfl, hg6⟩
            go_wp2_with fail
            go_roundg (n + 1 - (k + 1))
            case measure => omega
            case rel => exact ⟨k + 1, by omega, rfl, by go_num, Hk2, gb_trans hg5 hg6⟩
        · have Hro : Hid (decide (r = e.out) = false) := by show _ = _; simpa using hro
          have Hq : Hid (b = false) := by
            show _ = _
            rw [← Hb.out]
            exact not_valid_at He.out (by simp [entRight, Hkr.out, hro])
          clear hro
          go_wp2_with fail
          refine (specKindRun_any e.kind _ e.rows _ (hrows.alloc _)).mono ?_
          rw [Hkr.out]
          rintro e' w2 ⟨u, rfl, hu, hg2⟩
          have hru : RI w2 u r := hu.ri
          obtain ⟨A4, n4, c4, rfl⟩ := hu.ri.val
          have hg3 := gb_trans hg0 hg2
          have k2 := (B0.grown hg2 (by simp)).cell 2
          go_wp2_with fail
          refine (l13Same_b _ _ r e.out _ hru ((hout.alloc _).new hg2) Hro.out).mono ?_
          rintro e' w3 ⟨rfl, hg4⟩
          go_wp2_with fail
          go_ret
          exact ⟨by rw [Hq.out]; rfl, gb_trans hg3 hg4⟩
    · obtain rfl : k = n := by omega
      have Hr : Hid (b = decide ((k : Int) ≤ 4)) := by
        show _ = _
        rw [← Hb.out]
        unfold cacheValid
        rw [← Hn.out, Hk.out, Bool.true_and]
        exact decide_eq_decide.2 (by omega)
      clear Hk
      go_wp2_with fail
      go_ret
      exact ⟨by rw [Hr.out]; rfl, hg⟩
end Go.Proofs.Ytjlnhijabdkagaa
