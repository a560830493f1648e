/- Walks: laws.FnCacheOrder. -/
import Derived.Test.YtjlnhijabdkagaaS13Same
import Derived.Test.YtjlnhijabdkagaaT2Draw
namespace Go.Proofs.Ytjlnhijabdkagaa
open Go.RowKit

theorem order_at {es : List Ent} {kind : Int} {rows : List (List Int)} {out : List Int} {k : Nat} {e : Ent} (he : es[k]? = some e) (hm : entIs kind rows e = false) (hlt : 1 + (keptTo es kind rows k).length < (cacheNext es kind rows out).length) :
    (cacheNext es kind rows out)[1 + (keptTo es kind rows k).length]? = some e := by
  unfold cacheNext at *
  rw [List.length_take] at hlt
  rw [List.getElem?_take, if_pos (by omega), Nat.add_comm, List.getElem?_cons_succ]
  have hs : (es.filter fun e => !entIs kind rows e) = keptTo es kind rows k ++ (es.drop k).filter fun e => !entIs kind rows e := by
    unfold keptTo
    rw [← List.filter_append, List.take_append_drop]
  obtain ⟨hk, rfl⟩ := List.getElem?_eq_some_iff.1 he
  rw [hs, List.getElem?_append_right (Nat.le_refl _), Nat.sub_self, List.drop_eq_getElem_cons hk, List.filter_cons_of_pos (by simp [hm])]
  rfl
theorem order_end {es : List Ent} {kind : Int} {rows : List (List Int)} {out : List Int} : (cacheNext es kind rows out).length ≤ 1 + (keptTo es kind rows es.length).length := by
  unfold cacheNext keptTo
  rw [List.length_take, List.take_of_length_le (Nat.le_refl _), List.length_cons]
  omega
set_option maxHeartbeats 1600000 in
set_option maxRecDepth 20000 in
theorem fnCacheOrder_any (w : World) (v : Value) (n : Nat) (h : Bytes w w.heap.size v n) (hn : n ≤ 9223372036854775807) :
    Calls Try.prog 17 #[v] w fun e w' => e = .returned (.bool true) ∧ w.grownBy w' none := by
  obtain ⟨A, c, rfl, h2⟩ := id h
  have H := Lib.hid h
  clear h h2
  by_cases hbig : 1048576 < n
  · go_enter Try.func17, Try.ntmps17
    go_wp2_with fail
    go_ret
    exact ⟨rfl, gb_refl _ _⟩
  · go_enter Try.func17, Try.ntmps17
    go_wp2_with fail
    refine (drawCacheRun_any _ _ n H.out (by omega)).mono ?_
    rintro e w1 ⟨lv, rv, kind, es, rows, rfl, hre, hl4, hrl, hg1⟩
    have hre1 := hre
    have hrl1 := hrl
    obtain ⟨A2, n2, c2, rfl⟩ := hre.val
    obtain ⟨A3, n3, c3, rfl⟩ := hrl.val
    clear hre hrl
    go_wp2_with fail
    refine (implCacheRun_any _ _ es kind rows _ hre1 hrl1).mono ?_
    rintro e w2 ⟨v2, u2, rfl, ho2, hu2, hg2⟩
    have hre2 := hre1.new hg2
    have hrl2 := hrl1.new hg2
    have hg12 := gb_trans hg1 hg2
    have hi2 := ho2.re
    have hj2 := hu2.ri
    obtain ⟨A4, n4, c4, rfl⟩ := hi2.val
    obtain ⟨A5, n5, c5, rfl⟩ := hj2.val
    clear ho2 hu2 hre1 hrl1 hg1 hg2
    cases hf : cacheRun es kind rows with
    | none =>
      have Hf := Lib.hid hf
      rw [hf] at hi2 hj2
      clear hf
      go_wp2_with fail
      refine (specCacheRun_any _ _ es kind rows _ hre2 hrl2).mono ?_
      rw [Hf.out]
      rintro e w3 ⟨v3, u3, rfl, ho3, hu3, hg3⟩
      have hi3 := ho3.re
      have hj3 := hu3.ri
      have hi23 := hi2.new hg3
      have hj23 := hj2.new hg3
      have hg13 := gb_trans hg12 hg3
      obtain ⟨A6, n6, c6, rfl⟩ := hi3.val
      obtain ⟨A7, n7, c7, rfl⟩ := hj3.val
      go_wp2_with fail
      refine (sameRow_b _ _ _ _ _ hj23 hj3 (c := true) (by simp)).mono ?_
      rintro e w4 ⟨rfl, hg4⟩
      go_wp2_with fail
      refine (sameCache_b _ _ _ _ _ (hi23.new hg4) (hi3.new hg4) (c := true) (by simp)).mono ?_
      rintro e w5 ⟨rfl, hg5⟩
      have hg45 := gb_trans hg4 hg5
      go_wp2_with fail
      refine (sameRow_b _ _ _ _ _ (hj23.new hg45) (hj3.new hg45) (c := true) (by simp)).mono ?_
      rintro e w6 ⟨rfl, hg6⟩
      have hg46 := gb_trans hg45 hg6
      go_wp2_with fail
      refine (sameCache_b _ _ _ _ _ (hi23.new hg46) (hi3.new hg46) (c := true) (by simp)).mono ?_
      rintro e w7 ⟨rfl, hg7⟩
      go_wp2_with fail
      go_ret
      exact ⟨rfl, gb_trans (gb_trans hg13 hg46) hg7⟩
    | some r =>
      obtain ⟨nx, out, hit⟩ := r
      have Hf := Lib.hid hf
      obtain ⟨f1, f2, f3, f4, f5⟩ := run_some hf
      have Hv := Lib.hid f1
      have Hk : Hid (kindRun kind rows = some out) := f2
      have Hnx : Hid (nx = cacheNext es kind rows out) := f3
      have Hhit : Hid (hit = es.any (entIs kind rows)) := f4
      have Hv5 : Hid (cacheValid nx = true) := f5
      clear f1 f2 f3 f4 f5
      rw [hf] at hi2 hj2
      have hi2 : RE w2 (.slice A4 n4 c4) nx := hi2
      have hj2 : RI w2 (.slice A5 n5 c5) out := hj2
      clear hf
      go_wp2_with fail
      refine (specCacheRun_any _ _ es kind rows _ hre2 hrl2).mono ?_
      rw [Hf.out]
      rintro e w3 ⟨v3, u3, rfl, ho3, hu3, hg3⟩
      have hi3 : RE w3 v3 nx := ho3.re
      have hj3 : RI w3 u3 out := hu3.ri
      have hi23 := hi2.new hg3
      have hj23 := hj2.new hg3
      have hg13 := gb_trans hg12 hg3
      obtain ⟨A6, n6, c6, rfl⟩ := hi3.val
      obtain ⟨A7, n7, c7, rfl⟩ := hj3.val
      go_wp2_with fail
      refine (sameRow_b _ _ _ _ _ hj23 hj3 (c := true) (by simp)).mono ?_
      rintro e w4 ⟨rfl, hg4⟩
      go_wp2_with fail
      refine (sameCache_b _ _ _ _ _ (hi23.new hg4) (hi3.new hg4) (c := true) (by simp)).mono ?_
      rintro e w5 ⟨rfl, hg5⟩
      have hg45 := gb_trans hg4 hg5
      have hi5 := hi23.new hg45
      have hj5 := hj23.new hg45
      have hre5 := (hre2.new hg3).new hg45
      have hrl5 := (hrl2.new hg3).new hg45
      have hg15 := gb_trans hg13 hg45
      clear hi2 hj2 hi3 hj3 hi23 hj23 hre2 hrl2 hg3 hg4 hg5 hg45 hg12 hg13 ho3 hu3
      have hn4 : n4 = nx.length := hi5.len
      have hn2 : n2 = es.length := hre5.len
      have hn2b : n2 ≤ 4 := by omega
      have hn4b : n4 ≤ 4 := by rw [hn4, Hnx.out]; unfold cacheNext; rw [List.length_take]; omega
      have h41 : 1 ≤ n4 := by rw [hn4, Hnx.out, next_cons, List.length_cons]; omega
      have hat : Hid (∀ (k : Nat) (e : Ent), es[k]? = some e → entIs kind rows e = false → 1 + (keptTo es kind rows k).length < n4 → nx[1 + (keptTo es kind rows k).length]? = some e) := by
        intro k e he hm hlt
        rw [hn4, Hnx.out] at hlt
        rw [Hnx.out]
        exact order_at he hm hlt
      have hend : Hid (n4 ≤ 1 + (keptTo es kind rows n2).length) := by
        show _ ≤ _
        rw [hn4, Hnx.out, hn2]
        exact order_end
      clear hn4 hn2 Hnx Hf Hk Hhit Hv Hv5
      go_wp2_with fail
      go_loopg [14, 15] (n2 + 1) (fun mm z i wr => ∃ k m : Nat, k ≤ n2 ∧ mm = n2 + 1 - k ∧ i = .int .i64 k ∧ z = .int .i64 m ∧ Hid (m = 1 + (keptTo es kind rows k).length) ∧ m ≤ n4 ∧ w.grownBy wr none ∧ w5.grownBy wr none)
      case atStart => exact ⟨0, 1, Nat.zero_le _, rfl, rfl, rfl, rfl, h41, hg15, gb_refl _ _⟩
      case round =>
        obtain ⟨k, m, hk, rfl, rfl, rfl, Hm, hm4, hg, hgl⟩ := hrel
        clear hg15
        by_cases hlt : k < n2
        · by_cases hml : m < n4
          · obtain ⟨g, o, e, B1, p1, q1, B2, p2, q2, rfl, he, d0, d1, d2, hx1, hx2⟩ := (hre5.new hgl).at_ hlt
            have hrl6 := hrl5.new hgl
            by_cases his : entIs kind rows e = true
            · obtain ⟨hk1, hk2⟩ := entIs_iff.1 his
              have hb1 : (e.kind != kind) = false := by simpa using hk1
              have hq : Hid (decide (e.rows = rows) = true) := by show _ = _; simpa using hk2
              have Hm2 : Hid (m = 1 + (keptTo es kind rows (k + 1)).length) := by
                show _ = _
                rw [kept_in he his]
                exact Hm.out
              clear his hk1 hk2 he Hm
              go_wp2_with fail
              refine (sameRows_b _ _ e.rows rows _ hx1 hrl6 hq.out).mono ?_
              rintro e' w6 ⟨rfl, hg6⟩
              have hgw := gb_trans hg hg6
              have hgl6 := gb_trans hgl hg6
              go_wp2_with fail
              go_roundg (n2 + 1 - (k + 1))
              case measure => omega
              case rel => exact ⟨k + 1, m, by omega, rfl, by go_num, by go_num, Hm2, hm4, hgw, hgl6⟩
            · have his : entIs kind rows e = false := by simpa using his
              have hnxe := hat.out k e he his (by rw [← Hm.out]; exact hml)
              rw [← Hm.out] at hnxe
              have Hm2 : Hid (m + 1 = 1 + (keptTo es kind rows (k + 1)).length) := by
                show _ = _
                rw [kept_out he his, List.length_append, List.length_singleton]
                have := Hm.out
                omega
              obtain ⟨g', o', e2, B3, p3, q3, B4, p4, q4, rfl, he2, c0, c1, c2, hy1, hy2⟩ := (hi5.new hgl).at_ hml
              obtain rfl : e = e2 := Option.some.inj (hnxe.symm.trans he2)
              clear hnxe he he2 Hm
              by_cases hk1 : e.kind = kind
              · have hb1 : (e.kind != kind) = false := by simpa using hk1
                have hq : Hid (decide (e.rows = rows) = false) := by
                  show _ = _
                  rw [decide_eq_false_iff_not]
                  intro e0
                  rw [entIs_iff.2 ⟨hk1, e0⟩] at his
                  cases his
                clear his hk1
                go_wp2_with fail
                refine (sameRows_b _ _ e.rows rows _ hx1 hrl6 hq.out).mono ?_
                rintro e' w6 ⟨rfl, hg6⟩
                have hgw := gb_trans hg hg6
                have hgl6 := gb_trans hgl hg6
                have d0 := hg6.cell d0 (by simp)
                have d1 := hg6.cell d1 (by simp)
                have d2 := hg6.cell d2 (by simp)
                have c0 := hg6.cell c0 (by simp)
                have c1 := hg6.cell c1 (by simp)
                have c2 := hg6.cell c2 (by simp)
                have hx1 := hx1.new hg6
                have hx2 := hx2.new hg6
                have hy1 := hy1.new hg6
                have hy2 := hy2.new hg6
                clear hg hgl hg6
                go_wp2_with fail
                go_region_held3 (fun w' => w'.cell? ⟨g, o + k * 3, none⟩ = some (.int .i64 e.kind) ∧ w'.cell? ⟨g, o + k * 3 + 1, none⟩ = some (.slice B1 p1 q1) ∧ w'.cell? ⟨g, o + k * 3 + 2, none⟩ = some (.slice B2 p2 q2) ∧ w'.cell? ⟨g', o' + m * 3, none⟩ = some (.int .i64 e.kind) ∧ w'.cell? ⟨g', o' + m * 3 + 1, none⟩ = some (.slice B3 p3 q3) ∧ w'.cell? ⟨g', o' + m * 3 + 2, none⟩ = some (.slice B4 p4 q4)) (go_keep)
                  (first | (go_at_call 61; refine (sameEntry_b _ _ _ _ e e _ (by exact hy1) (by exact hy2) (by exact hx1) (by exact hx2) (c := true) (decide_eq_true rfl)).mono ?_; rintro e' w' ⟨rfl, hg'⟩; have k0 := hg'.cell (by exact c0) (by simp); have k1 := hg'.cell (by exact c1) (by simp); have k2 := hg'.cell (by exact c2) (by simp); have k3 := hg'.cell (by exact d0) (by simp); have k4 := hg'.cell (by exact d1) (by simp); have k5 := hg'.cell (by exact d2) (by simp)))
                go_wp2_with fail
                go_roundg (n2 + 1 - (k + 1))
                case measure => omega
                case rel => exact ⟨k + 1, m + 1, by omega, rfl, by go_num, by go_num, Hm2, by omega, gb_trans (gb_drew hgw) (by assumption), gb_trans (gb_drew hgl6) (by assumption)⟩
              · have hb1 : (e.kind != kind) = true := by simpa using hk1
                clear his hk1
                go_wp2_with fail
                go_region_held3 (fun w' => w'.cell? ⟨g, o + k * 3, none⟩ = some (.int .i64 e.kind) ∧ w'.cell? ⟨g, o + k * 3 + 1, none⟩ = some (.slice B1 p1 q1) ∧ w'.cell? ⟨g, o + k * 3 + 2, none⟩ = some (.slice B2 p2 q2) ∧ w'.cell? ⟨g', o' + m * 3, none⟩ = some (.int .i64 e.kind) ∧ w'.cell? ⟨g', o' + m * 3 + 1, none⟩ = some (.slice B3 p3 q3) ∧ w'.cell? ⟨g', o' + m * 3 + 2, none⟩ = some (.slice B4 p4 q4)) (go_keep)
                  (first | (go_at_call 61; refine (sameEntry_b _ _ _ _ e e _ (by exact hy1) (by exact hy2) (by exact hx1) (by exact hx2) (c := true) (decide_eq_true rfl)).mono ?_; rintro e' w' ⟨rfl, hg'⟩; have k0 := hg'.cell (by exact c0) (by simp); have k1 := hg'.cell (by exact c1) (by simp); have k2 := hg'.cell (by exact c2) (by simp); have k3 := hg'.cell (by exact d0) (by simp); have k4 := hg'.cell (by exact d1) (by simp); have k5 := hg'.cell (by exact d2) (by simp)))
                go_wp2_with fail
                go_roundg (n2 + 1 - (k + 1))
                case measure => omega
                case rel => exact ⟨k + 1, m + 1, by omega, rfl, by go_num, by go_num, Hm2, by omega, gb_trans (gb_drew hg) (by assumption), gb_trans (gb_drew hgl) (by assumption)⟩
          · obtain rfl : m = n4 := by omega
            go_wp2_with fail
            go_ret
            exact ⟨rfl, hg⟩
        · obtain rfl : k = n2 := by omega
          obtain rfl : m = n4 := by have := hend.out; have := Hm.out; omega
          go_wp2_with fail
          go_ret
          exact ⟨rfl, hg⟩
end Go.Proofs.Ytjlnhijabdkagaa
